/- Texts of one proof, one behind the other: ScrEqs, ScrJoin, ScrDo2, ScrPut. -/
import Derived.Test.YtppkeophochgiaaGreatDoorB44
import Derived.Lib.Join
/- Equations of a script's plain model, case by case. No program is in sight. -/
namespace Go.Proofs.YtppkeophochgiaaGreatDoor
open Go.RowKit
set_option linter.unusedVariables false
variable {s : SP}
theorem sput_one {r : List UInt8} (h : (cutC 32 r).isSome = false) : s.put r = (s, [], 1) := by
  unfold SP.put
  cases sideW (cutA 32 r) with
  | none => rfl
  | some b => simp only []; rw [if_pos (.inl h)]
theorem sput_two {r : List UInt8} (h : (cutC 32 (cutB 32 r)).isSome = false) : s.put r = (s, [], 1) := by
  unfold SP.put
  cases sideW (cutA 32 r) with
  | none => rfl
  | some b => simp only []; rw [if_pos (.inr h)]
theorem sput_none {r : List UInt8} (h : sideW (cutA 32 r) = none) : s.put r = (s, [], 1) := by unfold SP.put; rw [h]
theorem sput_yes {r : List UInt8} {b : Bool} (h : sideW (cutA 32 r) = some b) (h1 : (cutC 32 r).isSome = true) (h2 : (cutC 32 (cutB 32 r)).isSome = true) (hp : (putF (s.files b) (cutA 32 (cutB 32 r)) (cutB 32 (cutB 32 r))).1 = 0) :
    s.put r = (s.setF b (fputL (s.files b) (cutA 32 (cutB 32 r)) (cutB 32 (cutB 32 r))), txOk, 0) := by
  unfold SP.put
  rw [h]
  simp only []
  rw [if_neg (by simp [h1, h2]), if_pos hp]
theorem sput_no {r : List UInt8} {b : Bool} (h : sideW (cutA 32 r) = some b) (h1 : (cutC 32 r).isSome = true) (h2 : (cutC 32 (cutB 32 r)).isSome = true) (hp : (putF (s.files b) (cutA 32 (cutB 32 r)) (cutB 32 (cutB 32 r))).1 ≠ 0) :
    s.put r = (s, txOk, (putF (s.files b) (cutA 32 (cutB 32 r)) (cutB 32 (cutB 32 r))).1) := by
  unfold SP.put
  rw [h]
  simp only []
  rw [if_neg (by simp [h1, h2]), if_neg hp]
theorem size_none {n d : List UInt8} (h : nmL 6 d = none) : s.size n d = (s, [], 1) := by unfold SP.size; rw [h]
theorem size_bad {n d : List UInt8} {z : Nat} (h : nmL 6 d = some z) (hz : z < 1 ∨ 64 < z) : s.size n d = (s, [], 2) := by unfold SP.size; rw [h]; simp only []; rw [if_pos hz]
theorem size_ok {n d : List UInt8} {z : Nat} (h : nmL 6 d = some z) (hz : ¬ (z < 1 ∨ 64 < z)) : s.size n d = (s, Lib.decDigits (costN (mkOps (blks z (datOf s.tt n)) z (datOf s.fr n))) ++ 32 :: Lib.decDigits (mkOps (blks z (datOf s.tt n)) z (datOf s.fr n)).length, 0) := by
  unfold SP.size; rw [h]; simp only []; rw [if_neg hz]
theorem datOf_le {l : List PF} (h : Small l) (n : List UInt8) : (datOf l n).length ≤ 200 := by
  unfold datOf
  cases hg : fgetL l n with
  | none => simp
  | some x =>
    exact h.len _ (fgetL_some hg)
theorem mark_none {n d : List UInt8} (h : nmL 6 d = none) : s.mark n d = (s, [], 1) := by unfold SP.mark; rw [h]
theorem mark_no {n d : List UInt8} {z : Nat} (h : nmL 6 d = some z) (h2 : fgetL s.tt n = none) : s.mark n d = (s, [], 6) := by unfold SP.mark; rw [h, h2]
theorem mark_far {n d x : List UInt8} {z : Nat} (h : nmL 6 d = some z) (h2 : fgetL s.tt n = some x) (h3 : x.length < z) : s.mark n d = (s, [], 2) := by unfold SP.mark; rw [h, h2]; simp only []; rw [if_pos h3]
theorem mark_bad {n d x : List UInt8} {z : Nat} (h : nmL 6 d = some z) (h2 : fgetL s.tt n = some x) (h3 : ¬ x.length < z) (h4 : mkC ⟨n, z, csum (x.take z)⟩ ≠ 0) : s.mark n d = (s, txOk, mkC ⟨n, z, csum (x.take z)⟩) := by unfold SP.mark; rw [h, h2]; simp only []; rw [if_neg h3, if_pos h4]
theorem mark_ok {n d x : List UInt8} {z : Nat} (h : nmL 6 d = some z) (h2 : fgetL s.tt n = some x) (h3 : ¬ x.length < z) (h4 : mkC ⟨n, z, csum (x.take z)⟩ = 0) : s.mark n d = ({ s with tp := apT s.tp (mkX ⟨n, z, csum (x.take z)⟩) }, txOk, apC s.tp (mkX ⟨n, z, csum (x.take z)⟩)) := by unfold SP.mark; rw [h, h2]; simp only []; rw [if_neg h3, if_neg (by simp [h4])]
theorem opN_le (h : SInv s) (nm : List UInt8) : opN s.gm nm ≤ 2147483649 := by
  have := h.gk nm
  unfold opN
  split <;> omega
theorem glue_is (l : List (List UInt8)) : Lib.join l [32] = glueL l := by
  unfold Lib.join
  induction l with
  | nil => rfl
  | cons x l ih => cases l with
    | nil => simp [List.intercalate, List.intersperse, glueL]
    | cons y l =>
      have e : [32].intercalate (x :: y :: l) = x ++ ([32] ++ [32].intercalate (y :: l)) := by simp [List.intercalate, List.intersperse]
      rw [e, ih]
      rfl
theorem send_none {ws : List (List UInt8)} (h : SP.nums ws = none) : s.send ws = (s, [], 1) := by unfold SP.send; rw [h]
theorem send_some {ws : List (List UInt8)} {l : List Nat} (h : SP.nums ws = some l) : s.send ws = (s.setF false (SP.sent s.fr s.tt l), txDone, 0) := by unfold SP.send; rw [h]; rfl
end Go.Proofs.YtppkeophochgiaaGreatDoor
/- A list's texts joined by blanks, or 'nothing'. -/
namespace Go.Proofs.YtppkeophochgiaaGreatDoor
open Go.RowKit
set_option linter.unusedVariables false
theorem glue_ge : ∀ l : List (List UInt8), l.length ≤ (glueL l).length + 1
  | [] => by simp
  | [a] => by simp
  | a :: b :: l => by
    have := glue_ge (b :: l)
    show (a :: b :: l).length ≤ (a ++ 32 :: glueL (b :: l)).length + 1
    simp only [List.length_append, List.length_cons] at this ⊢
    omega
theorem addr_at (g j : Nat) : (⟨g, 0, none⟩ : Addr).add j = ⟨g, 0 + j, none⟩ := by cases j <;> rfl
set_option maxRecDepth 100000 in
set_option maxHeartbeats 3200000 in
theorem joined_any (l : List (List UInt8)) (base : Nat) (v : Value) (w : World) (hown : w.ownsRow base 9 1 v l.length (strV l)) (hl : (glueL l).length ≤ 1000000000) :
    Calls Tryz.prog 108 #[v] w fun e w' => e = .returned (.string (bs (joinL l))) ∧ Below w.heap.size w w' := by
  rcases hown.2 with ⟨rfl, hz⟩ | ⟨g, cap, cur, rfl, hbase, hb, h1, h2, h3, h4⟩
  · have hz : l = [] := List.eq_nil_of_length_eq_zero hz
    subst hz
    go_enter Tryz.func108, Tryz.ntmps108
    go_wp2_with fail
    go_ret
    exact ⟨by unfold joinL txNone bs; rfl, Below.refl _ _⟩
  · by_cases h0 : l = []
    · subst h0
      go_enter Tryz.func108, Tryz.ntmps108
      go_wp2_with fail
      go_ret
      exact ⟨by unfold joinL txNone bs; rfl, Below.refl _ _⟩
    · have hge := glue_ge l
      have hlen : 0 < l.length := by cases l with | nil => exact absurd rfl h0 | cons => simp
      have hlt : ¬ ((l.length : Nat) : Int) = 0 := by omega
      have JN := Lib.hid (Tryz.strings_Join g 0 cap (l.map bs) ⟨#[32]⟩ w (fun j x hx => by
        have hx' : (strV l)[j]? = some (.string x) := by
          unfold strV
          rw [List.getElem?_map] at hx ⊢
          cases hl : l[j]? with
          | none => rw [hl] at hx; cases hx
          | some y => rw [hl] at hx; cases hx; rfl
        have := hown.cells (g := g) rfl j _ hx'
        rwa [addr_at] at this) (Array.getElem?_eq_some_iff.1 hb).1 (by simp; omega) (by simp; omega) (by rw [List.map_map, show ((fun x : ByteArray => x.data.toList) ∘ bs) = id from funext fun x => bs_list x, List.map_id, show (ByteArray.mk #[32]).data.toList = [32] from rfl, glue_is]; omega))
      have eJ : (l.map bs).length = l.length := by simp
      rw [eJ, List.map_map, show ((fun x : ByteArray => x.data.toList) ∘ bs) = id from funext fun x => bs_list x, List.map_id, show (ByteArray.mk #[32]).data.toList = [32] from rfl, glue_is] at JN
      have HQ : joinL l = glueL l := by unfold joinL; rw [if_neg h0]
      rw [HQ]
      clear hb h3 h4 HQ eJ hge
      go_enter Tryz.func108, Tryz.ntmps108
      go_wp2_with fail
      refine JN.out.mono ?_
      rintro e w1 ⟨rfl, b1⟩
      have B1 := Lib.hid b1
      go_wp2_with fail
      go_ret
      exact ⟨by unfold bs; rfl, B1.out⟩
end Go.Proofs.YtppkeophochgiaaGreatDoor
/- A player's commands: open, admits, cut, recover. -/
namespace Go.Proofs.YtppkeophochgiaaGreatDoor
open Go.RowKit
set_option linter.unusedVariables false
theorem cell_chg {w w' : World} {a : Addr} {v : Value} {m : Nat} {es : Array MapEntry} {c : Nat} (hc : Chg w w' (fun x => x = m)) (hm : w.heap[m]? = some (.map es c)) (h : w.cell? a = some v) : w'.cell? a = some v := by
  have hb : w'.heap[a.block]? = w.heap[a.block]? := hc.block _ (World.block_lt_of_cell? w _ h) (fun e => by
    unfold World.cell? at h
    rw [e, hm] at h
    cases h)
  unfold World.cell? at h ⊢
  rw [hb]
  exact h
section
variable {Q : Guest} {E : Nat → Addr} {w0 w w' : World} {pb k : Nat} {A : PlA} {s : SP}
set_option maxRecDepth 100000 in
set_option maxHeartbeats 3200000 in
theorem popen_any (nm : List UInt8) (v : Value) (h : PlAt Q w0 w pb A s k) (hI : SInv s) (hE : SEnv E w0) (hv : SliceIs w v 1 [.string (bs nm)]) (hn : nm.length ≤ 1000000) (hk : k < 1000000) :
    Calls Tryz.prog 79 #[.pointer (some ⟨pb, 0, none⟩), v] w (Ans Q E w0 pb k (s.opens nm)) := by
  obtain ⟨s0, m0, c0, rfl, hm0, hm1, hm2, g1⟩ := hv.get
  obtain ⟨ad, rfl, d0⟩ := g1 0 _ rfl
  rw [addr0] at d0
  have hm0 : m0 = 1 := by simpa using hm0.symm
  subst hm0
  have HX := Lib.hid h
  have c2 := h.cs.1.2.2.1
  have B0 := Lib.hid (Below.drew (Below.refl w.heap.size w))
  have OP := Lib.hid (gopen_any (E := E) nm (h.below B0.out).gt (by omega) (by omega) (hE.err.e2.below (below_trans' h.bel B0.out)) (hE.err.e5.below (below_trans' h.bel B0.out)) (hE.err.e8.below (below_trans' h.bel B0.out)))
  have HX1 := Lib.hid (h.below B0.out)
  have S0 := And.intro c2 d0
  have S1 := And.intro (h.below B0.out).cs.1.2.2.1 ((B0.out.cell (World.block_lt_of_cell? w _ d0)).trans d0)
  have IT := Lib.hid (fun (w' : World) (b : Below w0.heap.size w0 w') => itoa_any E (opN s.gm nm) w' (hE.lib.below b) (by have := opN_le hI nm; omega))
  have MC := Lib.hid (fun (W : World) (hc : Chg w.drew W (fun x => x = A.mb)) => show W.cell? ad = some (.string (bs nm)) from by
    obtain ⟨es, cc, hm⟩ := HX.out.mapObj
    exact cell_chg hc hm d0)
  clear h hI hE hv g1
  go_enter Tryz.func79, Tryz.ntmps79
  go_wp2_with fail
  go_region_held3 (fun X => X.cell? ⟨pb, 2, none⟩ = some (.pointer (some ⟨A.gb, 0, none⟩)) ∧ X.cell? ad = some (.string (bs nm))) (first | exact S1 | exact S0 | exact S2) ((go_at_call 118; refine OP.out.mono ?_; rintro e w1 ⟨rfl, hg, hc⟩; have S2 := And.intro (HX1.out.gate hc hg).cs.1.2.2.1 (MC.out w1 hc)))
  have HP := Lib.hid (HX1.out.gate hc hg)
  have IT1 := Lib.hid (IT.out _ HP.out.bel)
  clear OP hg hc
  go_wp2_with fail
  refine IT1.out.mono ?_
  rintro e w2 ⟨rfl, b2⟩
  have HP2 := Lib.hid (HP.out.below b2)
  clear b2
  go_wp2_with fail
  go_ret2
  exact ⟨_, A, k + 1, rfl, told_ev _ _ _, HP2.out, by omega⟩
set_option maxRecDepth 100000 in
set_option maxHeartbeats 3200000 in
theorem padmit_any (nm d : List UInt8) (v : Value) (h : PlAt Q w0 w pb A s k) (hE : SEnv E w0) (hv : SliceIs w v 1 [.string (bs nm), .string (bs d)]) (hn : nm.length ≤ 1000000) (hd : d.length ≤ 1000000) :
    Calls Tryz.prog 80 #[.pointer (some ⟨pb, 0, none⟩), v] w (Ans Q E w0 pb k (s.admits nm d)) := by
  obtain ⟨s0, m0, c0, rfl, hm0, hm1, hm2, g1⟩ := hv.get
  obtain ⟨ad, rfl, d0⟩ := g1 0 _ rfl
  rw [addr0] at d0
  obtain ⟨ad', e', d1⟩ := g1 1 _ rfl
  cases e'
  rw [addr1] at d1
  have hm0 : m0 = 2 := by simpa using hm0.symm
  subst hm0
  have HX := Lib.hid h
  have NU := Lib.hid (number_any E 6 d w (hE.lib.below h.bel) (by omega) (by omega))
  have E1 := Lib.hid (fun (w' : World) (b : Below w.heap.size w w') => show w'.cell? ⟨1, 0, none⟩ = some (errv (E 1)) from hE.err.e1.below (below_trans' h.bel b))
  have AD := Lib.hid (fun (x : Int) (w' : World) (b : Below w.heap.size w w') => (gadmit_any (E := E) nm x (h.below b).gt (by omega) (hE.err.e6.below (below_trans' h.bel b)) (hE.err.e11.below (below_trans' h.bel b))).mono (fun e w2 h => And.intro h.1 h.2.symm))
  have CS := Lib.hid (fun (w' : World) (b : Below w.heap.size w w') => (h.below b).cs.1.2.2.1)
  have D0 := Lib.hid (fun (w' : World) (b : Below w.heap.size w w') => (b.cell (World.block_lt_of_cell? w _ d0)).trans d0)
  clear h hE hv g1
  cases hx : nmL 6 d with
  | none =>
    have hq : s.admits nm d = (s, [], 1) := by unfold SP.admits; rw [hx]
    rw [hq]
    simp only [NumIs, hx] at NU
    clear hq hx AD
    go_enter Tryz.func80, Tryz.ntmps80
    go_wp2_with fail
    refine NU.out.mono ?_
    rintro e w1 ⟨⟨v, rfl, hv⟩, b1⟩
    have ce := E1.out _ b1
    go_wp2_with fail
    go_quiet (fail)
    go_wp2_with fail
    go_ret2
    exact ⟨_, A, k, by rw [bs_nil]; rfl, told_err E _ (by simp), HX.out.below (below_drewN b1 nq), by omega⟩
  | some n =>
    have hq : s.admits nm d = (s, txOk, adC s.gm nm n) := by unfold SP.admits; rw [hx]
    rw [hq]
    simp only [NumIs, hx] at NU
    clear hq hx
    go_enter Tryz.func80, Tryz.ntmps80
    go_wp2_with fail
    refine NU.out.mono ?_
    rintro e w1 ⟨⟨v, rfl, hv⟩, b1⟩
    obtain rfl := hv n rfl
    have cs := CS.out _ b1
    have d0' := D0.out _ b1
    have AD1 := Lib.hid (fun m => AD.out n _ (below_drewN b1 m))
    have B1 := Lib.hid b1
    clear b1 NU AD hv
    go_wp2_with fail
    go_quiet ((go_at_call 119; exact Calls.quiet_of_same (AD1.out _)))
    go_wp2_with fail
    go_ret2
    exact ⟨_, A, k, by unfold txOk bs; rfl, told_ev _ _ _, HX.out.below (below_drewN B1.out nq), by omega⟩
set_option maxRecDepth 100000 in
set_option maxHeartbeats 3200000 in
theorem pcut_any (d : List UInt8) (v : Value) (h : PlAt Q w0 w pb A s k) (hE : SEnv E w0) (hv : SliceIs w v 1 [.string (bs d)]) (hd : d.length ≤ 1000000) (hlt : ∀ n, nmL 6 d = some n → n ≤ 1000000) :
    Calls Tryz.prog 83 #[.pointer (some ⟨pb, 0, none⟩), v] w (Ans Q E w0 pb k (s.cut d)) := by
  obtain ⟨s0, m0, c0, rfl, hm0, hm1, hm2, g1⟩ := hv.get
  obtain ⟨ad, rfl, d0⟩ := g1 0 _ rfl
  rw [addr0] at d0
  have hm0 : m0 = 1 := by simpa using hm0.symm
  subst hm0
  have HX := Lib.hid h
  have NU := Lib.hid (number_any E 6 d w (hE.lib.below h.bel) (by omega) (by omega))
  have E1 := Lib.hid (fun (w' : World) (b : Below w.heap.size w w') => show w'.cell? ⟨1, 0, none⟩ = some (errv (E 1)) from hE.err.e1.below (below_trans' h.bel b))
  have CT := Lib.hid (fun (x : Int) (hx : x ≤ 9223372036854775807) (w' : World) (b : Below w.heap.size w w') => tcut_s (E := E) x (h.below b).tp hE.tap hx)
  have CS := Lib.hid (fun (w' : World) (b : Below w.heap.size w w') => (h.below b).cs.1.2.2.2)
  clear h hE hv g1
  cases hx : nmL 6 d with
  | none =>
    have hq : s.cut d = (s, [], 1) := by unfold SP.cut; rw [hx]
    rw [hq]
    simp only [NumIs, hx] at NU
    clear hq hx CT hlt
    go_enter Tryz.func83, Tryz.ntmps83
    go_wp2_with fail
    refine NU.out.mono ?_
    rintro e w1 ⟨⟨v, rfl, hv⟩, b1⟩
    have ce := E1.out _ b1
    go_wp2_with fail
    go_quiet (fail)
    go_wp2_with fail
    go_ret2
    exact ⟨_, A, k, by rw [bs_nil]; rfl, told_err E _ (by simp), HX.out.below (below_drewN b1 nq), by omega⟩
  | some n =>
    have hq : s.cut d = ({ s with tp := ctT s.tp n }, txOk, ctC s.tp n) := by unfold SP.cut; rw [hx]
    rw [hq]
    have hnn := hlt n hx
    simp only [NumIs, hx] at NU
    clear hq hx hlt
    go_enter Tryz.func83, Tryz.ntmps83
    go_wp2_with fail
    refine NU.out.mono ?_
    rintro e w1 ⟨⟨v, rfl, hv⟩, b1⟩
    obtain rfl := hv n rfl
    have cs := CS.out _ b1
    have CT1 := Lib.hid (CT.out n (by omega) _ b1)
    have B1 := Lib.hid b1
    clear b1 NU CT hv
    go_wp2_with fail
    refine CT1.out.mono ?_
    rintro e w2 ⟨rfl, F', hT, hL⟩
    have HP := Lib.hid ((HX.out.below B1.out).tape hL hT)
    clear hT hL
    go_wp2_with fail
    go_ret2
    exact ⟨_, _, k, by unfold txOk bs; rfl, told_ev _ _ _, HP.out, by omega⟩
set_option maxRecDepth 100000 in
set_option maxHeartbeats 3200000 in
theorem pagain_any (v : Value) (h : PlAt Q w0 w pb A s k) (hI : SInv s) (hE : SEnv E w0) (hb : (readL s.tp.b).1.length ≤ 100000000) :
    Calls Tryz.prog 84 #[.pointer (some ⟨pb, 0, none⟩), v] w (Ans Q E w0 pb k s.again) := by
  have HX := Lib.hid h
  have CT := Lib.hid (trec_s (E := E) h.tp hE.tap (by have := hI.tpb; omega))
  have cs := h.cs.1.2.2.2
  have IT := Lib.hid (fun (w' : World) (b : Below w0.heap.size w0 w') => itoa_any E (readL s.tp.b).1.length w' (hE.lib.below b) (by omega))
  clear h hI hE hb
  go_enter Tryz.func84, Tryz.ntmps84
  go_wp2_with fail
  refine CT.out.mono ?_
  rintro e w1 ⟨r, rfl, ho, F', hT, hL⟩
  have HP := Lib.hid (HX.out.tape hL hT)
  have IT1 := Lib.hid (IT.out _ HP.out.bel)
  obtain ⟨ra, rc, rfl⟩ := owns_slice ho
  clear hT hL ho CT IT
  go_wp2_with fail
  refine IT1.out.mono ?_
  rintro e w2 ⟨rfl, b2⟩
  have HP2 := Lib.hid (HP.out.below b2)
  clear b2
  go_wp2_with fail
  go_ret2
  exact ⟨_, _, k, rfl, told_nil E _, HP2.out, by omega⟩
end
end Go.Proofs.YtppkeophochgiaaGreatDoor
/- A player's command: put. -/
namespace Go.Proofs.YtppkeophochgiaaGreatDoor
open Go.RowKit
set_option linter.unusedVariables false
theorem Told.zero {E : Nat → Addr} {w : World} {v : Value} (h : Told E w v 0) : v = .nilIface := by
  obtain ⟨at', h⟩ := h
  rcases h with ⟨_, _, h⟩ | ⟨h, _⟩ | ⟨h, _⟩
  · exact h
  · exact absurd rfl h
  · exact absurd rfl h
theorem Told.two {E : Nat → Addr} {w : World} {v : Value} {c : Nat} (h : Told E w v c) (hc : c ≠ 0) : v = .iface 345 (.pointer (some (E c))) ∨ ∃ fb, v = .iface 121 (.pointer (some ⟨fb, 0, none⟩)) := by
  obtain ⟨at', h⟩ := h
  rcases h with ⟨h, _⟩ | ⟨_, _, h⟩ | ⟨_, _, fb, h, _⟩
  · exact absurd h hc
  · unfold errv at h; exact .inl h
  · exact .inr ⟨fb, h⟩
theorem flput_told (E : Nat → Addr) (l : List PF) (v : Value) (n d : List UInt8) (w : World) (hl : SliceIs w v 2 (fcells l)) (hf : FWF l) (hd : d.length ≤ maxLen) (hn : n.length ≤ maxLen) (hE : XErr E w) :
    Calls Tryz.prog 72 #[v, .string (bs n), .string (bs d)] w fun e w' => ∃ r er, e = .returned (.tuple #[r, er]) ∧ Told E w' er (putF l n d).1 ∧ ((putF l n d).1 = 0 → w'.ownsRow w.heap.size 130 2 r (fputL l n d).length (fcells (fputL l n d))) ∧ ((putF l n d).1 ≠ 0 → r = .slice none 0 0) ∧ Below w.heap.size w w' := by
  rw [putF_ok ((flFault_wf l).2 hf)]
  cases hg : fgetL l n with
  | none =>
    refine (flput_new E l v n d w hl hf.okx hd hn hE.e2 hE.e5 hE.e8 hE.e9 hf hg).mono ?_
    rintro e w' ⟨r, er, rfl, h1, h2, h3, h4⟩
    exact ⟨r, er, rfl, ⟨_, h1⟩, h2, h3, h4⟩
  | some x =>
    refine (flput_there E l v n d w hl hf.okx hd hn hE.e2 hE.e5 hE.e8 hE.e9 hf (by rw [hg]; rfl)).mono ?_
    rintro e w' ⟨r, er, rfl, h1, h2, h3, h4⟩
    exact ⟨r, er, rfl, ⟨_, h1⟩, h2, h3, h4⟩
section
variable {Q : Guest} {E : Nat → Addr} {w0 w w' : World} {pb k : Nat} {A : PlA} {s : SP}
attribute [local irreducible] putF fputL cutA cutB cutC sideW SP.put
set_option maxRecDepth 100000 in
set_option maxHeartbeats 12800000 in
theorem pput_any (rest : List UInt8) (h : PlAt Q w0 w pb A s k) (hI : SInv s) (hE : SEnv E w0) (hr : rest.length ≤ 1000) :
    Calls Tryz.prog 49 #[.pointer (some ⟨pb, 0, none⟩), .string (bs rest)] w (Ans Q E w0 pb k (s.put rest)) := by
  have hB := cutB_len' 32 rest
  have hA := cutA_len 32 rest
  have hBB := cutB_len' 32 (cutB 32 rest)
  have hBA := cutA_len 32 (cutB 32 rest)
  have HX := Lib.hid h
  have HI := Lib.hid hI
  have C1 := Lib.hid (scut_any E 32 ⟨#[32]⟩ (by rfl) rest w (by omega) (hE.lib.below h.bel))
  have C2 := Lib.hid (fun (w' : World) (b : Below w.heap.size w w') => scut_any E 32 ⟨#[32]⟩ (by rfl) (cutB 32 rest) w' (by omega) (hE.lib.below (below_trans' h.bel b)))
  have SD := Lib.hid (fun w' => pside_any (cutA 32 rest) pb w')
  have E1 := Lib.hid (fun (w' : World) (b : Below w.heap.size w w') => show w'.cell? ⟨1, 0, none⟩ = some (errv (E 1)) from hE.err.e1.below (below_trans' h.bel b))
  have PU := Lib.hid (fun (b : Bool) (w' : World) (bb : Below w.heap.size w w') => flput_told E (s.files b) (A.fv b) (cutA 32 (cutB 32 rest)) (cutB 32 (cutB 32 rest)) w' (SliceIs.ownedK ((h.below bb).atF b).2.2) (hI.files b).wf (by unfold maxLen; omega) (by unfold maxLen; omega) (hE.err.below (below_trans' h.bel bb)))
  have PFF := Lib.hid (fun (b : Bool) (w' : World) (bb : Below w.heap.size w w') => (h.below bb).atF b)
  have Q1 := Lib.hid (fun h => sput_one (s := s) (r := rest) h)
  have Q2 := Lib.hid (fun h => sput_two (s := s) (r := rest) h)
  have Q3 := Lib.hid (fun h => sput_none (s := s) (r := rest) h)
  have Q4 := Lib.hid (fun b h h1 h2 hp => sput_yes (s := s) (r := rest) (b := b) h h1 h2 hp)
  have Q5 := Lib.hid (fun b h h1 h2 hp => sput_no (s := s) (r := rest) (b := b) h h1 h2 hp)
  clear h hI hE hB hA hBB hBA hr
  cases h1 : (cutC 32 rest).isSome with
  | false =>
    rw [h1] at C1
    rw [Q1.out h1]
    clear Q1 Q2 Q3 Q4 Q5 PU PFF h1
    go_enter Tryz.func49, Tryz.ntmps49
    go_wp2_with fail
    refine C1.out.mono ?_
    rintro e w1 ⟨rfl, b1⟩
    have C21 := Lib.hid (C2.out _ b1)
    have B1 := Lib.hid b1
    clear C1 C2 b1
    go_wp2_with fail
    refine C21.out.mono ?_
    rintro e w2 ⟨rfl, b2⟩
    have B2 := Lib.hid (below_trans' B1.out b2)
    clear C21 b2
    go_wp2_with fail
    refine (SD.out _).mono ?_
    rintro e w3 ⟨rfl, rfl⟩
    have ce := E1.out _ B2.out
    go_wp2_with fail
    go_quiet (fail)
    go_wp2_with fail
    go_ret2
    exact ⟨_, A, k, by rw [bs_nil]; rfl, told_err E _ (by simp), HX.out.below (below_drewN B2.out nq), by omega⟩
  | true =>
    rw [h1] at C1
    cases h2 : (cutC 32 (cutB 32 rest)).isSome with
    | false =>
      simp only [h2] at C2
      rw [Q2.out h2]
      clear Q1 Q2 Q3 Q4 Q5 PU PFF h1 h2
      go_enter Tryz.func49, Tryz.ntmps49
      go_wp2_with fail
      refine C1.out.mono ?_
      rintro e w1 ⟨rfl, b1⟩
      have C21 := Lib.hid (C2.out _ b1)
      have B1 := Lib.hid b1
      clear C1 C2 b1
      go_wp2_with fail
      refine C21.out.mono ?_
      rintro e w2 ⟨rfl, b2⟩
      have B2 := Lib.hid (below_trans' B1.out b2)
      clear C21 b2
      go_wp2_with fail
      refine (SD.out _).mono ?_
      rintro e w3 ⟨rfl, rfl⟩
      have ce := E1.out _ B2.out
      go_wp2_with fail
      go_quiet (fail)
      go_wp2_with fail
      go_ret2
      exact ⟨_, A, k, by rw [bs_nil]; rfl, told_err E _ (by simp), HX.out.below (below_drewN B2.out nq), by omega⟩
    | true =>
      simp only [h2] at C2
      cases hs : sideW (cutA 32 rest) with
      | none =>
        rw [Q3.out hs]
        rw [hs] at SD
        clear Q1 Q2 Q3 Q4 Q5 PU PFF h1 h2 hs
        go_enter Tryz.func49, Tryz.ntmps49
        go_wp2_with fail
        refine C1.out.mono ?_
        rintro e w1 ⟨rfl, b1⟩
        have C21 := Lib.hid (C2.out _ b1)
        have B1 := Lib.hid b1
        clear C1 C2 b1
        go_wp2_with fail
        refine C21.out.mono ?_
        rintro e w2 ⟨rfl, b2⟩
        have B2 := Lib.hid (below_trans' B1.out b2)
        clear C21 b2
        go_wp2_with fail
        refine (SD.out _).mono ?_
        rintro e w3 ⟨rfl, rfl⟩
        have ce := E1.out _ B2.out
        go_wp2_with fail
        go_quiet (fail)
        go_wp2_with fail
        go_ret2
        exact ⟨_, A, k, by rw [bs_nil]; rfl, told_err E _ (by simp), HX.out.below (below_drewN B2.out nq), by omega⟩
      | some b =>
        rw [hs] at SD
        have PU := Lib.hid (PU.out b)
        have PFF := Lib.hid (PFF.out b)
        have HP := Lib.hid (fun (w' : World) (A : PlA) (h : PlAt Q w0 w' pb A s k) (l : List PF) (base : Nat) (r : Value) (hr : w'.ownsRow base 130 2 r l.length (fcells l)) (hb : w0.heap.size ≤ base) (hn : Apt Q A r) => h.putF b hr hb hn)
        generalize A.fv b = fv at *
        obtain ⟨g, cap, hlv⟩ := owns_slice (PFF.out _ (Below.refl _ w)).2.2
        subst hlv
        by_cases hp : (putF (s.files b) (cutA 32 (cutB 32 rest)) (cutB 32 (cutB 32 rest))).1 = 0
        · rw [Q4.out b hs h1 h2 hp]
          clear Q1 Q2 Q3 Q4 Q5 h1 h2 hs
          go_enter Tryz.func49, Tryz.ntmps49
          go_wp2_with fail
          refine C1.out.mono ?_
          rintro e w1 ⟨rfl, b1⟩
          have C21 := Lib.hid (C2.out _ b1)
          have B1 := Lib.hid b1
          clear C1 C2 b1
          go_wp2_with fail
          refine C21.out.mono ?_
          rintro e w2 ⟨rfl, b2⟩
          have B2 := Lib.hid (below_trans' B1.out b2)
          clear C21 b2
          go_wp2_with fail
          refine (SD.out _).mono ?_
          rintro e w3 ⟨rfl, rfl⟩
          simp only [Option.map_some]
          obtain ⟨f1, f2, f3⟩ := PFF.out _ B2.out
          have PU1 := Lib.hid (PU.out _ B2.out)
          go_wp2_with fail
          refine PU1.out.mono ?_
          rintro e w4 ⟨r, er, rfl, t1, t2, t3, b4⟩
          rw [hp] at t1
          obtain rfl := t1.zero
          have hr := t2 hp
          have BB := Lib.hid (below_trans' B2.out b4)
          have HP1 := Lib.hid (HP.out _ _ (HX.out.below BB.out) _ _ _ hr (below_trans' HX.out.bel B2.out).size (HX.out.fresh hr B2.out.size))
          obtain ⟨f1, f2, f3⟩ := PFF.out _ BB.out
          obtain ⟨ra, rc, rfl⟩ := owns_slice hr
          clear t1 t2 t3 b4 hr PU1 PU
          go_wp2_with fail
          go_ret2
          obtain ⟨A', hA⟩ := HP1.out
          exact ⟨_, A', k, by unfold txOk bs; rfl, told_nil E _, hA, by omega⟩
        · rw [Q5.out b hs h1 h2 hp]
          clear Q1 Q2 Q3 Q4 Q5 h1 h2 hs
          go_enter Tryz.func49, Tryz.ntmps49
          go_wp2_with fail
          refine C1.out.mono ?_
          rintro e w1 ⟨rfl, b1⟩
          have C21 := Lib.hid (C2.out _ b1)
          have B1 := Lib.hid b1
          clear C1 C2 b1
          go_wp2_with fail
          refine C21.out.mono ?_
          rintro e w2 ⟨rfl, b2⟩
          have B2 := Lib.hid (below_trans' B1.out b2)
          clear C21 b2
          go_wp2_with fail
          refine (SD.out _).mono ?_
          rintro e w3 ⟨rfl, rfl⟩
          simp only [Option.map_some]
          obtain ⟨f1, f2, f3⟩ := PFF.out _ B2.out
          have PU1 := Lib.hid (PU.out _ B2.out)
          go_wp2_with fail
          refine PU1.out.mono ?_
          rintro e w4 ⟨r, er, rfl, t1, t2, t3, b4⟩
          have T1 := Lib.hid t1
          have hr := t3 hp
          subst hr
          have BB := Lib.hid (below_trans' B2.out b4)
          rcases t1.two hp with rfl | ⟨fb, rfl⟩
          all_goals
            clear t1 t2 t3 b4 PU1 PU hp
            go_wp2_with fail
            go_ret2
            exact ⟨_, A, k, by unfold txOk bs; rfl, T1.out, HX.out.below BB.out, by omega⟩
end
end Go.Proofs.YtppkeophochgiaaGreatDoor
