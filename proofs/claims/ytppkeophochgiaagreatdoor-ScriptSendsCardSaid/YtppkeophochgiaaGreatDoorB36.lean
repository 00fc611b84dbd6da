/- Texts of one proof, one behind the other: TapRead, TapRec, TapApp, TapS. -/
import Derived.Test.YtppkeophochgiaaGreatDoorB34
import Derived.Test.YtppkeophochgiaaGreatDoorB24
import Derived.Test.YtppkeophochgiaaGreatDoorB35
import Derived.Deep.RegionHeld3
import Derived.Test.YtppkeophochgiaaGreatDoorB29
/- Contract of tape.Read. -/
namespace Go.Proofs.YtppkeophochgiaaGreatDoor
open Go.RowKit
set_option linter.unusedVariables false

theorem readL_step {b done : List (List UInt8)} {x : List UInt8} {n : Nat} {s : List UInt8} (h : readL x = (done ++ (readL (x.drop n)).1, n + (readL (x.drop n)).2)) (ho : oneL (x.drop n) = some s) :
    readL x = ((done ++ [s]) ++ (readL (x.drop (n + (recL s).length))).1, (n + (recL s).length) + (readL (x.drop (n + (recL s).length))).2) := by
  rw [h, readL_some ho, List.drop_drop]
  simp [Nat.add_assoc]
theorem oneL_len {b s : List UInt8} (h : oneL b = some s) : s.length ≤ 20000 := (one_is h).1
attribute [local irreducible] recL oneL readL
set_option maxRecDepth 100000 in
set_option maxHeartbeats 6400000 in
theorem read_any (E : Nat → Addr) (b : List UInt8) (w : World) (hw : LibW E w) (hb : b.length ≤ 1000000000) :
    Calls Tryz.prog 123 #[.string (bs b)] w fun e w' => ∃ v, e = .returned (.tuple #[v, .int .i64 ((readL b).2 : Nat)]) ∧ w'.ownsRow w.heap.size 9 1 v (readL b).1.length (strV (readL b).1) ∧ Below w.heap.size w w' := by
  have ON := Lib.hid (fun (x : List UInt8) (hx : x.length ≤ b.length) (w' : World) (bl : Below w.heap.size w w') => one_any E x w' (hw.below bl) (by omega))
  have RC := Lib.hid (fun (s : List UInt8) (hs : s.length ≤ 20000) (w' : World) (bl : Below w.heap.size w w') => rec_any E s w' (hw.below bl) (by omega))
  obtain ⟨i0, hi, hz0, hz1, hz2⟩ := info_parts infoStr
  clear hw
  go_enter Tryz.func123, Tryz.ntmps123
  go_wp2_with fail
  go_loopw [4, 5, 6, 7] (fun o i _ _ wr => ∃ (n : Nat) (done : List (List UInt8)), i = .int .i64 n ∧ n ≤ b.length ∧ done.length ≤ n ∧ wr.ownsRow w.heap.size 9 1 o done.length (strV done) ∧ readL b = (done ++ (readL (b.drop n)).1, n + (readL (b.drop n)).2) ∧ Below w.heap.size w wr) (fun _ i _ _ _ => b.length - (intOf i).toNat)
  case atStart => exact ⟨0, [], rfl, by omega, by simp, World.ownsRow_nil _ _ _ _, by simp, Below.refl _ _⟩
  case round =>
    obtain ⟨n, done, rfl, hn, hdn, hown, hread, bel⟩ := hrel
    have HR := Lib.hid hread
    have ED : (bs b).extract n b.length = bs (b.drop n) := by
      have := bs_drop (bs b) n
      rwa [bs_list, bs_size] at this
    have HO := Lib.hid hown
    have BW := Lib.hid bel
    have y1 : (0 : Int) ≤ n := by omega
    have y2 : (n : Int) ≤ b.length := by omega
    have y5 : (n : Int).toNat = n := by omega
    obtain ⟨va, vc, rfl⟩ := owns_slice hown
    clear hread bel hown
    cases ho : oneL (b.drop n) with
    | none =>
      have C := ON.out (b.drop n) (by simp) wr BW.out
      rw [ho] at C
      have HC := Lib.hid C
      have HF := Lib.hid (readL_none ho)
      clear C ho
      go_wp2_with fail
      refine HC.out.mono ?_
      rintro e w1 ⟨rfl, b1⟩
      have bel1 := below_trans' BW.out b1
      have own1 := owns_below HO.out b1
      clear b1
      go_wp2_with fail
      go_ret2
      have hrb : readL b = (done, n) := by
        have := HR.out
        rw [HF.out] at this
        simpa using this
      rw [hrb]
      exact ⟨_, rfl, own1, bel1⟩
    | some s =>
      have C := ON.out (b.drop n) (by simp) wr BW.out
      rw [ho] at C
      have HC := Lib.hid C
      have HST := Lib.hid (readL_step (b := []) HR.out ho)
      have hsl := oneL_len ho
      have hdl := one_drop ho
      rw [List.length_drop] at hdl
      have hrp := recL_pos s
      have hw1 : IntKind.i64.wrap ((n : Int) + (recL s).length) = (n : Int) + (recL s).length := IntWalk.i64_in _ (by omega)
      have HN1 : Hid (done.length + 1 ≤ maxLen) := by show _ ≤ _; unfold maxLen; omega
      have HN2 : Hid ((done.length + 1) * 16 ≤ 140737488355328) := by show _ ≤ _; omega
      have KK := Lib.hid (show n + (recL s).length ≤ b.length ∧ done.length + 1 ≤ n + (recL s).length ∧ 4 ≤ (recL s).length by omega)
      have RC1 := Lib.hid (RC.out s hsl)
      clear C ho hdl hrp RC ON
      generalize hR : recL s = R at *
      go_wp2_with fail
      refine HC.out.mono ?_
      rintro e w1 ⟨rfl, b1⟩
      have bel1 := Lib.hid (below_trans' BW.out b1)
      have own1 := Lib.hid (owns_below HO.out b1)
      clear b1 HO BW
      go_wp2_with (at_builtin; refine wpList_append_own _ rfl _ _ 22 rfl w.heap.size 9 i0 _ 1 16 Tryz.underlying22 hi hz0 hz1 hz2 rfl (by decide) _ _ _ rfl (own1.out.alloc _) ⟨w1.heap.size, 0, none⟩ 1 1 [.string (bs s)] rfl rfl (one_news (by simp)) (one_cell rfl) HN1.out HN2.out (by have := bel1.out.size; simp; omega) ?_; intro v' w5 hown5 hgrow _; have HO5 := Lib.hid hown5; have B5 := Lib.hid ((bel1.out.alloc bel1.out.size _).grown hgrow (by have := bel1.out.size; simp; omega) (fun j hj => (own1.out.lt j hj).1)); clear hown5 hgrow)
      refine (RC1.out _ B5.out).mono ?_
      rintro e w6 ⟨rfl, b6⟩
      have B6 := Lib.hid (below_trans' B5.out b6)
      have HO6 := Lib.hid (owns_below HO5.out b6)
      clear b6
      go_wp2_with fail
      go_roundw
      case rel => exact ⟨n + R.length, done ++ [s], by go_num, KK.out.1, by simpa using KK.out.2.1, by rw [strV_snoc, List.length_append]; exact HO6.out, HST.out, B6.out⟩
      case measure => have := KK.out; simp [intOf]; omega
end Go.Proofs.YtppkeophochgiaaGreatDoor
/- Contract of tape.Recover. -/
namespace Go.Proofs.YtppkeophochgiaaGreatDoor
open Go.RowKit
set_option linter.unusedVariables false

set_option maxRecDepth 100000 in
theorem buf_cut {w : World} {base : Nat} {s : Option Addr} {n c : Nat} {xs : List Value} (h : BufIs w base 5 (.slice s n c) xs) (k : Nat) (hk : k ≤ xs.length) :
    (∀ w' : World, (Instr.slice 107 (.slice s n c) none (some (.int .i64 k)) (some (.int .i64 k))).run Tryz.prog w' = .ok (.slice s k k) w') ∧ BufIs w base 5 (.slice s k k) (xs.take k) := by
  have hu : Tryz.prog.underlying 107 = some (.slice (Tryz.prog.elem 107)) := by kernel_rfl
  have hz : ∀ w' : World, (sizeOf (Tryz.prog.elem 107)).run Tryz.prog w' = .ok 1 w' := fun w' => by kernel_rfl
  obtain ⟨a', c', hv⟩ := h.val
  cases hv
  have hkc : k ≤ c := by
    rcases h with ⟨h, rfl⟩ | ⟨g, cap, cur, fr, hv, _, _, _, h1, _⟩
    · cases h; simpa using hk
    · cases hv; omega
  refine ⟨fun w' => ?_, ?_⟩
  · rw [run_slice_hm w' 107 s xs.length c hu .i64 .i64 k k (by omega) (by omega) (by omega), hz]
    simp only [Result.andThen, sliced, Int.toNat_natCast, Nat.zero_mul, Nat.sub_zero]
    congr 2
    rcases s with _ | a
    · simp
    · split
      · rfl
      · obtain ⟨b, o, sp⟩ := a
        obtain ⟨_, ho, hs, _⟩ := h.cells rfl
        simp only at ho hs
        subst ho hs
        simp [Addr.add]
  · rcases s with _ | a
    · rcases h with ⟨h, rfl⟩ | ⟨g, cap, cur, fr, hv, _⟩
      · cases h
        obtain rfl : k = 0 := by simpa using hk
        exact .inl ⟨rfl, rfl⟩
      · cases hv
    · exact h.cut k hk
set_option maxRecDepth 100000 in
set_option maxHeartbeats 6400000 in
theorem trec_any (E : Nat → Addr) (base db : Nat) (v : Value) (d : TP) (w : World) (h : DiskAt w base db v d) (hw : ∀ w', Chg w w' (DFoot db v) → LibW E w') (hb : d.b.length ≤ 100000000) :
    Calls Tryz.prog 128 #[.pointer (some ⟨db, 0, none⟩)] w fun e w' => ∃ r, e = .returned (.tuple #[r, .nilIface]) ∧ w'.ownsRow w.heap.size 9 1 r (readL d.b).1.length (strV (readL d.b).1) ∧ DiskTo w w' base db v (rcT d) := by
  have ON := Lib.hid (don_any base db v d w h)
  have HD := Lib.hid h
  clear h
  go_enter Tryz.func128, Tryz.ntmps128
  go_wp2_with fail
  refine ON.out.mono ?_
  rintro e w1 ⟨rfl, v1, h1, hc1, ha1⟩
  have hs1 := hc1.size
  have RD := Lib.hid (read_any E d.b w1 (hw w1 hc1) (by omega))
  have hcv := run_bytes_buf h1.buf
  obtain ⟨c0, _, _⟩ := h1.cs.1
  obtain ⟨va, vc, rfl⟩ := h1.val
  have hl := readL_len d.b
  obtain ⟨hsl, HB⟩ := buf_cut h1.buf (readL d.b).2 (by rw [List.length_map]; exact hl)
  have H1 := Lib.hid h1
  have HB := Lib.hid HB
  have CC := Lib.hid (fun (w' : World) (b : Below w1.heap.size w1 w') => (h1.below b).cs)
  have T1 := Lib.hid (show DiskTo w w1 base db v (onT d) from ⟨_, h1, hc1, ha1⟩)
  clear h1 hc1 ha1 hl hw
  simp only [onT] at hcv hsl c0
  go_wp2_with fail
  refine RD.out.mono ?_
  rintro e w2 ⟨r, rfl, hown, b2⟩
  obtain ⟨⟨c0', _, _⟩, cf⟩ := CC.out w2 b2
  have f0 := cf 0
  have B2 := Lib.hid b2
  obtain ⟨ra, rc, rfl⟩ := owns_slice hown
  have HO := Lib.hid hown
  clear b2 cf c0 CC hown RD hcv
  simp only [onT] at c0'
  have T2 : Hid (DiskTo w (w2.setCell ⟨db, 0, none⟩ (.slice va (readL d.b).2 (readL d.b).2)) base db v (rcT d)) := by
    refine Lib.hid (T1.out.trans fun v' hv' => ?_)
    have e := hv'.cells
    rw [H1.out.cells] at e
    obtain rfl : _ = v' := by simpa using e
    have hk := hv'.below B2.out
    have := hk.setbuf (w1 := w2) (l := d.b.take (readL d.b).2) (v' := .slice va (readL d.b).2 (readL d.b).2) (by
      have := HB.out.below B2.out
      rwa [← List.map_take] at this) ⟨rfl, rfl, rfl, Nat.le_refl _, fun _ _ _ => rfl⟩ (.inl (by cases va <;> rfl))
    exact (DiskTo.same hv' B2.out).trans fun v2 h2 => by
      have e := h2.cells
      rw [hk.cells] at e
      obtain rfl : _ = v2 := by simpa using e
      exact this
  have HR : Hid ((w2.setCell ⟨db, 0, none⟩ (.slice va (readL d.b).2 (readL d.b).2)).ownsRow w.heap.size 9 1 (.slice ra (readL d.b).1.length rc) (readL d.b).1.length (strV (readL d.b).1)) := by
    refine Lib.hid (owns_mono' (ownsRow_setCell_below HO.out (a := ⟨db, 0, none⟩) ?_ _) hs1)
    show db < _
    have := HD.out.lt
    omega
  clear HO H1 HB T1 B2
  go_wp2_with fail
  go_ret2
  exact ⟨_, rfl, HR.out, T2.out⟩
end Go.Proofs.YtppkeophochgiaaGreatDoor
/- Contract of tape.Append. -/
namespace Go.Proofs.YtppkeophochgiaaGreatDoor
open Go.RowKit
set_option linter.unusedVariables false

attribute [local irreducible] recL
set_option maxRecDepth 100000 in
set_option maxHeartbeats 6400000 in
theorem tapp_any (E : Nat → Addr) (base db : Nat) (v : Value) (d : TP) (s : List UInt8) (w : World) (h : DiskAt w base db v d) (hw : LibW E w) (hs : s.length ≤ 1000000) (hb : d.b.length ≤ 100000000) (hB : Has E w 2) (hF : Has E w 8) (hO : Has E w 12) (hg12 : gOf 12 < base) (hbase : base ≤ w.heap.size) :
    Calls Tryz.prog 122 #[.pointer (some ⟨db, 0, none⟩), .string (bs s)] w fun e w' => e = .returned (ev E (apC d s)) ∧ DiskTo w w' base db v (apT d s) := by
  have HD := Lib.hid h
  have RW := Lib.hid (fun (w' : World) (b : Below w.heap.size w w') => rec_any E s w' (hw.below b) (by omega))
  have CB := Lib.hid (fun (w' : World) (b : Below w.heap.size w w') => show w'.cell? ⟨0, 0, none⟩ = some (errv (E 2)) from hB.below b)
  have CF := Lib.hid (fun (w' : World) (b : Below w.heap.size w w') => show w'.cell? ⟨7, 0, none⟩ = some (errv (E 8)) from hF.below b)
  have HO := Lib.hid hO
  have hsz : (bs s).size = s.length := bs_size s
  obtain ⟨va, vc, hv⟩ := h.val
  have DD : Hid (∀ w' : World, Below w.heap.size w w' → (w'.cell? ⟨db, 0, none⟩ = some (.slice va d.b.length vc)) ∧ Below w.heap.size w w') := fun w' b => ⟨by rw [← hv]; exact (h.below b).cs.1.1, b⟩
  have BR := Below.refl w.heap.size w
  clear h hw hF hO
  by_cases h1 : 20000 < s.length
  · have e1 : apC d s = 2 := by unfold apC; rw [if_pos h1]
    have e2 : apT d s = d := by unfold apT; rw [if_pos h1]
    rw [e1, e2, ev_is E (by decide)]
    have hI : (20000 : Int) < s.length := by omega
    have cB := CB.out w BR
    clear e1 e2 hB
    go_enter Tryz.func122, Tryz.ntmps122
    go_wp2_with fail
    go_ret
    exact ⟨rfl, DiskTo.same HD.out BR⟩
  · have hI : ¬ (20000 : Int) < s.length := by omega
    have hrl := recL_le (s := s) (by omega)
    have hbw : IntKind.i64.wrap (1048576 - (d.b.length : Int)) = 1048576 - (d.b.length : Int) := IntWalk.i64_in _ (by omega)
    have hrs : (bs (recL s)).size = (recL s).length := bs_size _
    have DW := Lib.hid (fun (w' : World) (b : Below w.heap.size w w') => dwrite_any E base db v d (recL s) w' (HD.out.below b) (by omega) (by omega) (HO.out.below b) hg12 (Nat.le_trans hbase b.size))
    have S0 := DD.out w BR
    by_cases h2 : 1048576 < d.b.length + (recL s).length
    · have e1 : apC d s = 8 := by unfold apC; rw [if_neg h1, if_pos h2]
      have e2 : apT d s = d := by unfold apT; rw [if_neg h1, if_pos h2]
      rw [e1, e2, ev_is E (by decide)]
      have hJ : 1048576 - (d.b.length : Int) < (recL s).length := by omega
      clear e1 e2 hB DW
      generalize recL s = R at *
      go_enter Tryz.func122, Tryz.ntmps122
      go_wp2_with fail
      go_region_held3 (fun w' => (w'.cell? ⟨db, 0, none⟩ = some (.slice va d.b.length vc)) ∧ Below w.heap.size w w') (first | assumption | exact S0 | exact DD.out _ (by assumption) | exact DD.out _ (Below.drew BR))
        (first
        | (go_at_call 164; (with_reducible refine (RW.out _ ?_).mono ?_); (first | assumption | exact Below.drew BR); rintro e v1 ⟨rfl, b1⟩; have bel1 := below_trans' (by first | assumption | exact Below.drew BR) b1; have S1 := DD.out _ bel1))
      all_goals
        have cF := CF.out _ (by assumption)
        go_wp2_with fail
        go_ret
        exact ⟨rfl, DiskTo.same HD.out (by assumption)⟩
    · have e1 : apC d s = wrC d (recL s) := by unfold apC; rw [if_neg h1, if_neg h2]
      have e2 : apT d s = wrT d (recL s) := by unfold apT; rw [if_neg h1, if_neg h2]
      rw [e1, e2]
      have hJ : ¬ 1048576 - (d.b.length : Int) < (recL s).length := by omega
      clear e1 e2 hB
      generalize recL s = R at *
      go_enter Tryz.func122, Tryz.ntmps122
      go_wp2_with fail
      go_region_held3 (fun w' => (w'.cell? ⟨db, 0, none⟩ = some (.slice va d.b.length vc)) ∧ Below w.heap.size w w') (first | assumption | exact S0 | exact DD.out _ (by assumption) | exact DD.out _ (Below.drew BR))
        (first
        | (go_at_call 164; (with_reducible refine (RW.out _ ?_).mono ?_); (first | assumption | exact Below.drew BR); rintro e v1 ⟨rfl, b1⟩; have bel1 := below_trans' (by first | assumption | exact Below.drew BR) b1; have S1 := DD.out _ bel1))
      all_goals
        have HB1 : Hid (Below w.heap.size w _) := (by assumption)
        go_wp2_with fail
        refine (RW.out _ HB1.out).mono ?_
        rintro e v2 ⟨rfl, b2⟩
        have bel2 := Lib.hid (below_trans' HB1.out b2)
        clear b2
        go_wp2_with fail
        refine (DW.out _ bel2.out).mono ?_
        rintro e v3 ⟨rfl, h3⟩
        go_wp2_with fail
        go_ret
        refine ⟨rfl, (DiskTo.same HD.out bel2.out).trans fun v' hv' => ?_⟩
        have e := hv'.cells
        rw [(HD.out.below bel2.out).cells] at e
        obtain rfl : v = v' := by simpa using e
        exact h3
end Go.Proofs.YtppkeophochgiaaGreatDoor
/- A disk among what a call owns: the contracts over one word (TpS), each with its footprint. -/
namespace Go.Proofs.YtppkeophochgiaaGreatDoor
open Go.RowKit
set_option linter.unusedVariables false

def LaterT (w w' : World) (F F' : Nat → Prop) : Prop := Chg w w' F ∧ ∀ x, F' x → F x ∨ w.heap.size ≤ x
theorem LaterT.below {w w' : World} (h : Below w.heap.size w w') (F : Nat → Prop) : LaterT w w' F F := ⟨Chg.of_below h F, fun _ h => .inl h⟩
theorem LaterT.trans {a b c : World} {F G H : Nat → Prop} (h : LaterT a b F G) (k : LaterT b c G H) : LaterT a c F H :=
  ⟨h.1.trans k.1 (fun x hx hg => (h.2 x hg).elim id (fun h2 => by omega)), fun x hx => (k.2 x hx).elim (h.2 x) (fun h2 => .inr (Nat.le_trans h.1.size h2))⟩
theorem own_other' {w w' : World} {base : Nat} {e : TypeId} {size : Nat} {v : Value} {n : Nat} {xs : List Value} {S : Nat → Prop} (h : w.ownsRow base e size v n xs) (hc : Chg w w' S) (hs : ∀ x, v.ownBlock = some x → ¬ S x) : w'.ownsRow base e size v n xs := by
  obtain ⟨h1, h2⟩ := h
  refine ⟨h1, ?_⟩
  rcases h2 with h2 | ⟨g, cap, cur, hv, hg, hh, h3⟩
  · exact .inl h2
  · subst hv
    exact .inr ⟨g, cap, cur, rfl, hg, (hc.block g (lt_of_block hh) (hs g rfl)).trans hh, h3⟩
/-- a slice elsewhere stays -/
theorem LaterT.own {w w' : World} {F F' : Nat → Prop} {base : Nat} {e : TypeId} {size : Nat} {v : Value} {n : Nat} {xs : List Value} (hl : LaterT w w' F F') (ho : w.ownsRow base e size v n xs) (hn : ∀ x, v.ownBlock = some x → ¬ F x) : w'.ownsRow base e size v n xs ∧ ∀ x, v.ownBlock = some x → ¬ F' x := by
  refine ⟨own_other' ho hl.1 hn, fun x hx hf => ?_⟩
  rcases hl.2 x hf with h | h
  · exact hn x hx h
  · have := (ho.lt x hx).2; omega
structure TpS (w0 w : World) (F : Nat → Prop) (db : Nat) (d : TP) : Prop where
  dk : ∃ v, DiskAt w w0.heap.size db v d ∧ ∀ x, v.ownBlock = some x → F x
  fd : F db
  lo : ∀ x, F x → w0.heap.size ≤ x ∧ x < w.heap.size
  bel : Below w0.heap.size w0 w
theorem BufIs.mono {w : World} {base base' : Nat} {e : TypeId} {v : Value} {xs : List Value} (h : BufIs w base e v xs) (hb : base' ≤ base) : BufIs w base' e v xs := by
  rcases h with h | ⟨g, cap, cur, fr, hv, h1, h2⟩
  · exact .inl h
  · exact .inr ⟨g, cap, cur, fr, hv, by omega, h2⟩
theorem DiskAt.mono {w : World} {base base' db : Nat} {v : Value} {d : TP} (h : DiskAt w base db v d) (hb : base' ≤ base) : DiskAt w base' db v d := ⟨h.cells, h.buf.mono hb, h.ne, by have := h.lo; omega, h.cut⟩
section
variable {E : Nat → Addr} {w0 w w' : World} {F : Nat → Prop} {db : Nat} {d : TP}
theorem TpS.kept {S : Nat → Prop} (h : TpS w0 w F db d) (hc : Chg w w' S) (hS : ∀ x, F x → ¬ S x) (hb : Below w0.heap.size w0 w') : TpS w0 w' F db d := by
  obtain ⟨v, h1, h2⟩ := h.dk
  exact ⟨⟨v, h1.kept hc (hS db h.fd) (fun x hx => hS x (h2 x hx)), h2⟩, h.fd, fun x hx => ⟨(h.lo x hx).1, Nat.lt_of_lt_of_le (h.lo x hx).2 hc.size⟩, hb⟩
theorem TpS.below (h : TpS w0 w F db d) (hb : Below w.heap.size w w') : TpS w0 w' F db d :=
  h.kept (Chg.of_below hb (fun _ => False)) (fun _ _ h => h) (below_trans' h.bel hb)
theorem TpS.to {v : Value} {d' : TP} (h : TpS w0 w F db d) (h1 : DiskAt w w0.heap.size db v d) (h2 : ∀ x, v.ownBlock = some x → F x) (ht : DiskTo w w' w0.heap.size db v d') : ∃ F', TpS w0 w' F' db d' ∧ LaterT w w' F F' := by
  obtain ⟨v', k1, kc, ka⟩ := ht
  have hcF : Chg w w' F := kc.more (fun x _ hx => by rcases hx with rfl | hx; exact h.fd; exact h2 x hx)
  refine ⟨fun x => F x ∨ v'.ownBlock = some x, ⟨⟨v', k1, fun x hx => .inr hx⟩, .inl h.fd, fun x hx => ?_, hcF.below h.bel (fun x hx => (h.lo x hx).1)⟩, hcF, fun x hx => ?_⟩
  · rcases hx with hx | hx
    · exact ⟨(h.lo x hx).1, Nat.lt_of_lt_of_le (h.lo x hx).2 hcF.size⟩
    · exact k1.buf.at hx
  · rcases hx with hx | hx
    · exact .inl hx
    · exact (ka x hx).imp (h2 x) id
/-- what a call over tapes is given -/
structure TEnv (E : Nat → Addr) (w : World) : Prop where
  lib : LibW E w
  e2 : Has E w 2
  e8 : Has E w 8
  e12 : Has E w 12
theorem TEnv.below (h : TEnv E w) (hb : Below w.heap.size w w') : TEnv E w' := ⟨h.lib.below hb, h.e2.below hb, h.e8.below hb, h.e12.below hb⟩
theorem TEnv.g12 (h : TEnv E w) : gOf 12 < w.heap.size := World.block_lt_of_cell? w _ h.e12
theorem tnew_s (s : ByteArray) (hb : Below w0.heap.size w0 w) (hs : s.size ≤ 1048576) :
    Calls Tryz.prog 20 #[.string s] w fun e w' => ∃ db, e = .returned (.tuple #[.pointer (some ⟨db, 0, none⟩), .nilIface]) ∧ (∃ F, TpS w0 w' F db ⟨s.data.toList, false, -1⟩ ∧ ∀ x, F x → w.heap.size ≤ x) ∧ Below w.heap.size w w' := by
  refine (newdisk_any s w hs).mono ?_
  rintro e w' ⟨db, rfl, ⟨v, h⟩, b⟩
  have hb' := below_trans' hb b
  refine ⟨db, rfl, ⟨fun x => w.heap.size ≤ x ∧ x < w'.heap.size, ⟨⟨v, h.mono hb.size, fun x hx => h.buf.at hx⟩, ⟨h.lo, h.lt⟩, fun x hx => ⟨Nat.le_trans hb.size hx.1, hx.2⟩, hb'⟩, fun x hx => hx.1⟩, b⟩
theorem tapp_s (s : List UInt8) (h : TpS w0 w F db d) (hE : TEnv E w0) (hs : s.length ≤ 1000000) (hb : d.b.length ≤ 100000000) :
    Calls Tryz.prog 122 #[.pointer (some ⟨db, 0, none⟩), .string (bs s)] w fun e w' => e = .returned (ev E (apC d s)) ∧ ∃ F', TpS w0 w' F' db (apT d s) ∧ LaterT w w' F F' := by
  obtain ⟨v, h1, h2⟩ := h.dk
  have hE' := hE.below h.bel
  refine (tapp_any E w0.heap.size db v d s w h1 hE'.lib hs hb hE'.e2 hE'.e8 hE'.e12 hE.g12 h.bel.size).mono ?_
  rintro e w' ⟨he, ht⟩
  exact ⟨he, h.to h1 h2 ht⟩
theorem tcut_s (n : Int) (h : TpS w0 w F db d) (hE : TEnv E w0) (hn : n ≤ 9223372036854775807) :
    Calls Tryz.prog 127 #[.pointer (some ⟨db, 0, none⟩), .int .i64 n] w fun e w' => e = .returned (ev E (ctC d n)) ∧ ∃ F', TpS w0 w' F' db (ctT d n) ∧ LaterT w w' F F' := by
  obtain ⟨v, h1, h2⟩ := h.dk
  have hE' := hE.below h.bel
  refine (dcut_any E w0.heap.size db v d n w h1 hn hE'.e2 hE'.e12).mono ?_
  rintro e w' ⟨he, ht⟩
  exact ⟨he, h.to h1 h2 ht⟩
theorem tbytes_s (h : TpS w0 w F db d) :
    Calls Tryz.prog 124 #[.pointer (some ⟨db, 0, none⟩)] w fun e w' => e = .returned (.string (bs d.b)) ∧ w' = w := by
  obtain ⟨v, h1, h2⟩ := h.dk
  exact dbytes_any w0.heap.size db v d w h1
theorem trec_s (h : TpS w0 w F db d) (hE : TEnv E w0) (hb : d.b.length ≤ 100000000) :
    Calls Tryz.prog 128 #[.pointer (some ⟨db, 0, none⟩)] w fun e w' => ∃ r, e = .returned (.tuple #[r, .nilIface]) ∧ w'.ownsRow w.heap.size 9 1 r (readL d.b).1.length (strV (readL d.b).1) ∧ ∃ F', TpS w0 w' F' db (rcT d) ∧ LaterT w w' F F' := by
  obtain ⟨v, h1, h2⟩ := h.dk
  refine (trec_any E w0.heap.size db v d w h1 (fun w' hc => ?_) hb).mono ?_
  · refine hE.lib.below (hc.below h.bel (fun x hx => ?_))
    rcases hx with rfl | hx
    · exact h1.lo
    · exact (h1.buf.at hx).1
  · rintro e w' ⟨r, he, ho, ht⟩
    exact ⟨r, he, ho, h.to h1 h2 ht⟩
end
end Go.Proofs.YtppkeophochgiaaGreatDoor
