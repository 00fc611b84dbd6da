/- Contracts of files.find and files.Put. -/
import Derived.Test.YtapdfgnfblkncaaDoorFilInsG
namespace Go.Proofs.YtapdfgnfblkncaaDoor
open Go.RowKit
set_option linter.unusedVariables false

theorem place_there {l : List PF} {n d : List UInt8} (hs : l.Pairwise fun a b => ltL a.n b.n = true) (h : fgetL l n = some d) : ∃ hp : placeL l n < l.length, (l[placeL l n]'hp).n = n := by
  obtain ⟨j, hj, hje⟩ := List.getElem_of_mem (fgetL_some h)
  have hjn : l[j].n = n := by rw [hje]
  have hP := List.pairwise_iff_getElem.1 hs
  have e : j = placeL l n := by
    refine place_of hs (Nat.le_of_lt hj) (fun i hi hij => ?_) (fun i hi hij => ?_)
    · have := hP i j hi hj hij; rw [hjn] at this; exact this
    · rcases Nat.lt_or_eq_of_le hij with hl | rfl
      · have := hP j i hj hi hl; rw [hjn] at this; exact ltL_asymm this
      · rw [hjn]; exact ltL_irrefl _
  subst e
  exact ⟨hj, hjn⟩
theorem fcells_setd {l : List PF} {p : Nat} (hp : p < l.length) (n d : List UInt8) (hn : l[p].n = n) : (fcells l).set (p * 2 + 1) (.string (bs d)) = fcells (l.set p ⟨n, d⟩) := by
  have h := rowc_set fn0 fn1 l p ⟨n, d⟩
  have h0 : (fcells l).set (p * 2) (.string (bs n)) = fcells l := by
    obtain ⟨g, _⟩ := fcells_get l p hp
    rw [hn] at g
    refine List.ext_getElem? fun i => ?_
    rw [List.getElem?_set]
    split
    · rename_i e
      subst e
      split
      · exact g.symm
      · rename_i e2; rw [List.getElem?_eq_none (by omega)] at g; cases g
    · rfl
  have h1 : (((fcells l).set (p * 2) (.string (bs n))).set (p * 2 + 1) (.string (bs d))) = fcells (l.set p ⟨n, d⟩) := h
  rw [h0] at h1
  exact h1
set_option maxRecDepth 100000 in
theorem find_any (l : List PF) (v : Value) (n : List UInt8) (w : World) (hl : SliceIs w v 2 (fcells l)) (hs : l.Pairwise fun a b => ltL a.n b.n = true) (hlen : l.length ≤ 1000000) :
    Calls Tryd.prog 63 #[v, .string (bs n)] w fun e w' => e = .returned (.tuple #[.int .i64 (placeL l n), .bool (fgetL l n).isSome]) ∧ Below w.heap.size w w' := by
  have KEY := Lib.hid (bsf_any l v n w hl hs hlen)
  obtain ⟨s, m, c, rfl, _⟩ := hl.get
  clear hl
  go_enter Tryd.func63, Tryd.ntmps63
  go_wp2_with fail
  refine KEY.out.mono ?_
  rintro e w1 ⟨rfl, b1⟩
  have HB := Lib.hid b1
  clear b1 KEY
  go_wp2_with fail
  go_ret2
  exact ⟨rfl, HB.out⟩
def putF (l : List PF) (n d : List UInt8) : Nat × Int := if (flFault l).1 ≠ 0 then flFault l else flFault (fputL l n d)
theorem putF_bad {l : List PF} {n d : List UInt8} (h : (flFault l).1 ≠ 0) : putF l n d = flFault l := by unfold putF; rw [if_pos h]
theorem putF_ok {l : List PF} {n d : List UInt8} (h : (flFault l).1 = 0) : putF l n d = flFault (fputL l n d) := by unfold putF; rw [if_neg (by simp [h])]
theorem FOk.put {l : List PF} {n d : List UInt8} (h : FOk l) (hn : n.length ≤ maxLen) (hd : d.length ≤ maxLen) : FOk (fputL l n d) := by
  intro f hf
  rcases mem_fputL l n d f hf with rfl | hf
  · exact ⟨hn, hd⟩
  · exact h f hf
set_option maxRecDepth 100000 in
set_option maxHeartbeats 6400000 in
theorem flput_bad (E : Nat → Addr) (l : List PF) (v : Value) (n d : List UInt8) (w : World) (hl : SliceIs w v 2 (fcells l)) (hd : FOk l) (hlen : l.length ≤ 1000000) (hB : Has E w 2) (hN : Has E w 5) (hF : Has E w 8) (hO : Has E w 9) (hf : (flFault l).1 ≠ 0) :
    Calls Tryd.prog 33 #[v, .string (bs n), .string (bs d)] w fun e w' => ∃ r, e = .returned (.tuple #[.slice none 0 0, r]) ∧ FErr E w' r (flFault l).1 (flFault l).2 ∧ Below w.heap.size w w' := by
  have CK := Lib.hid (flcheck_any E l v w hl hd (by omega) hB hN hF hO)
  have HF := Lib.hid hf
  clear hl hB hN hF hO hf
  go_enter Tryd.func33, Tryd.ntmps33
  go_wp2_with fail
  refine CK.out.mono ?_
  rintro e w1 ⟨r, rfl, fe, b1⟩
  have FE := Lib.hid fe
  obtain ⟨t, p, rfl⟩ := fe.some HF.out
  have HB := Lib.hid b1
  clear fe b1 CK
  go_wp2_with fail
  go_ret2
  exact ⟨_, rfl, FE.out, HB.out⟩
set_option maxRecDepth 100000 in
set_option maxHeartbeats 6400000 in
theorem flput_there (E : Nat → Addr) (l : List PF) (v : Value) (n d : List UInt8) (w : World) (hl : SliceIs w v 2 (fcells l)) (hd : FOk l) (hdd : d.length ≤ maxLen) (hnn : n.length ≤ maxLen) (hB : Has E w 2) (hN : Has E w 5) (hF : Has E w 8) (hO : Has E w 9) (hf : FWF l) (hg : (fgetL l n).isSome = true) :
    Calls Tryd.prog 33 #[v, .string (bs n), .string (bs d)] w fun e w' => ∃ r er, e = .returned (.tuple #[r, er]) ∧ FErr E w' er (flFault (fputL l n d)).1 (flFault (fputL l n d)).2 ∧ ((flFault (fputL l n d)).1 = 0 → w'.ownsRow w.heap.size 75 2 r (fputL l n d).length (fcells (fputL l n d))) ∧ ((flFault (fputL l n d)).1 ≠ 0 → r = .slice none 0 0) ∧ Below w.heap.size w w' := by
  have hfew := hf.few
  have CK := Lib.hid (flcheck_any E l v w hl hd (by omega) hB hN hF hO)
  have HF0 := Lib.hid ((flFault_wf l).2 hf)
  have HL := Lib.hid hl
  have HS := Lib.hid hf.sorted
  obtain ⟨d0, hgd⟩ := Option.isSome_iff_exists.1 hg
  obtain ⟨hp, hpn⟩ := place_there hf.sorted hgd
  have PUT := Lib.hid (fputL_there (d := d) hf.sorted hp hpn)
  have SET := Lib.hid (fcells_setd hp n d hpn)
  have HFD := Lib.hid (FOk.put hd hnn hdd)
  have H2 := Lib.hid hB
  have H5 := Lib.hid hN
  have H8 := Lib.hid hF
  have H9 := Lib.hid hO
  have HPL := Lib.hid (show (fputL l n d).length = l.length by rw [PUT.out, List.length_set])
  have HP := Lib.hid hp
  have HG := Lib.hid hg
  generalize hq : placeL l n = p at *
  have HQ := Lib.hid hq
  clear hl hB hN hF hO hf hgd hpn hq hg
  go_enter Tryd.func33, Tryd.ntmps33
  go_wp2_with fail
  refine CK.out.mono ?_
  rintro e w1 ⟨r, rfl, fe, b1⟩
  rw [HF0.out] at fe
  obtain rfl := fe.zero
  have B1 := Lib.hid b1
  clear fe b1 CK
  go_wp2_with fail
  refine (flclone_any l v _ (HL.out.below B1.out) (by omega)).mono ?_
  rintro e w2 ⟨r, rfl, o2, b2⟩
  have O2 := Lib.hid o2
  have B2 := Lib.hid b2
  obtain ⟨va, vc, rfl⟩ := owns_slice o2
  have hva : ∃ g, va = some ⟨g, 0, none⟩ := by
    rcases o2.2 with ⟨h, h'⟩ | ⟨g, _, _, h, _⟩
    · omega
    · cases h; exact ⟨g, rfl⟩
  obtain ⟨g, rfl⟩ := hva
  clear o2 b2
  go_wp2_with fail
  refine (find_any l _ n w2 (SliceIs.ownedK O2.out) HS.out (by omega)).mono ?_
  rintro e w3 ⟨rfl, b3⟩
  rw [HQ.out, HG.out]
  have B3 := Lib.hid b3
  have o3 := owns_below O2.out b3
  have O3 := Lib.hid o3
  have HST := Lib.hid ((show w3.ownsRow w1.heap.size 75 2 (.slice (some ⟨g, 0, none⟩) l.length vc) l.length (fcells l) from o3).stored (p * 2 + 1) (.string (bs d)))
  obtain ⟨c0, c1⟩ := fcells_get l p HP.out
  have d0 := o3.cells (g := g) rfl _ _ c0
  have d1 := o3.cells (g := g) rfl _ _ c1
  rw [Addr.add_lit] at d0 d1
  rw [Nat.zero_add] at d0 d1
  have fr : ∀ k, w3.frozen? ⟨g, k, none⟩ = false := by
    rcases o3.2 with ⟨h, _⟩ | ⟨g', _, cur, h, _, hh, _⟩
    · cases h
    · cases h; intro k; simp [World.frozen?, hh]
  have y1 : (0 : Int) ≤ p := by omega
  have y2 : (p : Int).toNat = p := by omega
  have y3 : (p : Int) < l.length := by omega
  clear b3 o3 c0 c1
  go_wp2_with fail
  have B4 := Lib.hid (show Below w.heap.size w (w3.setCell ⟨g, p * 2 + 1, none⟩ (.string (bs d))) from (below_trans' (below_trans' B1.out B2.out) B3.out).setCell (by have h1 := (O2.out.lt g rfl).1; have h2 := B1.out.size; exact Nat.le_trans h2 h1) _)
  have o4 := HST.out.1
  rw [SET.out, ← PUT.out] at o4
  clear HST d0 d1 fr
  generalize w3.setCell ⟨g, p * 2 + 1, none⟩ (.string (bs d)) = W4 at *
  rw [← HPL.out] at o4 ⊢
  have O4 := Lib.hid o4
  have CK2 := Lib.hid (flcheck_any E (fputL l n d) _ W4 (SliceIs.ownedK o4) HFD.out (by have := HPL.out; omega) (H2.out.below B4.out) (H5.out.below B4.out) (H8.out.below B4.out) (H9.out.below B4.out))
  clear o4
  refine CK2.out.mono ?_
  rintro e w5 ⟨r, rfl, fe, b5⟩
  have FE := Lib.hid fe
  have HB := Lib.hid (below_trans' B4.out b5)
  have OF := Lib.hid (owns_mono' (owns_below O4.out b5) B1.out.size)
  by_cases hz : (flFault (fputL l n d)).1 = 0
  · have hr : r = .nilIface := by rw [hz] at fe; exact fe.zero
    subst hr
    have HZ := Lib.hid hz
    clear fe b5 CK2 hz
    go_wp2_with fail
    go_ret2
    exact ⟨_, _, rfl, FE.out, fun _ => OF.out, fun h => absurd HZ.out h, HB.out⟩
  · obtain ⟨t, q, rfl⟩ := fe.some hz
    have HZ := Lib.hid hz
    clear fe b5 CK2 hz
    go_wp2_with fail
    go_ret2
    exact ⟨_, _, rfl, FE.out, fun h => absurd h HZ.out, fun _ => rfl, HB.out⟩
set_option maxRecDepth 100000 in
set_option maxHeartbeats 6400000 in
theorem flput_new (E : Nat → Addr) (l : List PF) (v : Value) (n d : List UInt8) (w : World) (hl : SliceIs w v 2 (fcells l)) (hd : FOk l) (hdd : d.length ≤ maxLen) (hnn : n.length ≤ maxLen) (hB : Has E w 2) (hN : Has E w 5) (hF : Has E w 8) (hO : Has E w 9) (hf : FWF l) (hg : fgetL l n = none) :
    Calls Tryd.prog 33 #[v, .string (bs n), .string (bs d)] w fun e w' => ∃ r er, e = .returned (.tuple #[r, er]) ∧ FErr E w' er (flFault (fputL l n d)).1 (flFault (fputL l n d)).2 ∧ ((flFault (fputL l n d)).1 = 0 → w'.ownsRow w.heap.size 75 2 r (fputL l n d).length (fcells (fputL l n d))) ∧ ((flFault (fputL l n d)).1 ≠ 0 → r = .slice none 0 0) ∧ Below w.heap.size w w' := by
  have hfew := hf.few
  have CK := Lib.hid (flcheck_any E l v w hl hd (by omega) hB hN hF hO)
  have HF0 := Lib.hid ((flFault_wf l).2 hf)
  have HL := Lib.hid hl
  have HS := Lib.hid hf.sorted
  have PUT := Lib.hid (fputL_new (n := n) (d := d) hf.sorted (fun hp => fgetL_none hg _ (List.getElem_mem hp)))
  have HFD := Lib.hid (FOk.put hd hnn hdd)
  have H2 := Lib.hid hB
  have H5 := Lib.hid hN
  have H8 := Lib.hid hF
  have H9 := Lib.hid hO
  have PL' := Lib.hid (place_le l n)
  have HPL := Lib.hid (show (fputL l n d).length = l.length + 1 by have := PL'.out; rw [PUT.out]; simp; omega)
  have HG := Lib.hid (show (fgetL l n).isSome = false by rw [hg]; rfl)
  generalize hq : placeL l n = p at *
  have HQ := Lib.hid hq
  clear hl hB hN hF hO hf hq hg
  go_enter Tryd.func33, Tryd.ntmps33
  go_wp2_with fail
  refine CK.out.mono ?_
  rintro e w1 ⟨r, rfl, fe, b1⟩
  rw [HF0.out] at fe
  obtain rfl := fe.zero
  have B1 := Lib.hid b1
  clear fe b1 CK
  go_wp2_with fail
  refine (flclone_any l v _ (HL.out.below B1.out) (by omega)).mono ?_
  rintro e w2 ⟨r, rfl, o2, b2⟩
  have O2 := Lib.hid o2
  have B2 := Lib.hid b2
  obtain ⟨va, vc, rfl⟩ := owns_slice o2
  clear o2 b2
  go_wp2_with fail
  refine (find_any l _ n w2 (SliceIs.ownedK O2.out) HS.out (by omega)).mono ?_
  rintro e w3 ⟨rfl, b3⟩
  rw [HQ.out, HG.out]
  have B3 := Lib.hid (below_trans' (below_trans' B1.out B2.out) b3)
  have O3 := Lib.hid (owns_below O2.out b3)
  have S13 := Lib.hid (show w1.heap.size ≤ w3.heap.size from Nat.le_trans B2.out.size b3.size)
  clear b3
  go_wp2_with fail
  have O3a := Lib.hid (O3.out.alloc (.cells #[.string (bs n), .string (bs d)] 75))
  have INS := Lib.hid (insert_any l ⟨n, d⟩ p w1.heap.size w3.heap.size _ _ O3a.out (heap_alloc_new _ _) (fun h => by have := (O3.out.lt w3.heap.size h).2; omega) PL'.out (by have := S13.out; simp; omega) (by omega))
  have B3a := Lib.hid (B3.out.alloc B3.out.size (.cells #[.string (bs n), .string (bs d)] 75))
  refine INS.out.mono ?_
  rintro e W4 ⟨r, rfl, o4, c4⟩
  rw [← PUT.out, ← HPL.out] at o4
  have B4 := Lib.hid (c4.below B3a.out (fun x hx => by have := (O2.out.lt x hx).1; have := B1.out.size; omega))
  have O4 := Lib.hid o4
  obtain ⟨ra, rc, rfl⟩ := owns_slice o4
  have CK2 := Lib.hid (flcheck_any E (fputL l n d) _ W4 (SliceIs.ownedK o4) HFD.out (by have := HPL.out; omega) (H2.out.below B4.out) (H5.out.below B4.out) (H8.out.below B4.out) (H9.out.below B4.out))
  clear o4 c4 INS
  go_wp2_with fail
  refine CK2.out.mono ?_
  rintro e w5 ⟨r, rfl, fe, b5⟩
  have FE := Lib.hid fe
  have HB := Lib.hid (below_trans' B4.out b5)
  have OF := Lib.hid (owns_mono' (owns_below O4.out b5) B1.out.size)
  by_cases hz : (flFault (fputL l n d)).1 = 0
  · have hr : r = .nilIface := by rw [hz] at fe; exact fe.zero
    subst hr
    have HZ := Lib.hid hz
    clear fe b5 CK2 hz
    go_wp2_with fail
    go_ret2
    exact ⟨_, _, rfl, FE.out, fun _ => OF.out, fun h => absurd HZ.out h, HB.out⟩
  · obtain ⟨t, q, rfl⟩ := fe.some hz
    have HZ := Lib.hid hz
    clear fe b5 CK2 hz
    go_wp2_with fail
    go_ret2
    exact ⟨_, _, rfl, FE.out, fun h => absurd h HZ.out, fun _ => rfl, HB.out⟩
end Go.Proofs.YtapdfgnfblkncaaDoor
