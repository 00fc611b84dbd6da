/- Texts of one proof, one behind the other: IxPlain, DelFile, Buf. -/
import Derived.Test.YtppkeophochgiaaGreatDoorB09
import Derived.Lib.SliceRun
import Derived.Lib.AppendStr
import Derived.Lib.ConvBytes
import Derived.Lib.AtoiErrMem
/- Plain words of slices.IndexFunc, slices.DeleteFunc. -/
namespace Go.Proofs.YtppkeophochgiaaGreatDoor
open Go.RowKit
set_option linter.unusedVariables false

section
variable {α : Type}
/-- the first place, counted from k; -1: none -/
def ixI : Nat → (α → Bool) → List α → Int
  | _, _, [] => -1
  | k, p, x :: l => if p x = true then k else ixI (k + 1) p l
variable {p : α → Bool} {l : List α} {k : Nat}
theorem ixI_start (p : α → Bool) (l : List α) : ixI 0 p l = ixI 0 p (l.drop 0) := rfl
theorem ixI_yes (h : k < l.length) (hp : p l[k] = true) : ixI k p (l.drop k) = (k : Int) := by rw [List.drop_eq_getElem_cons h, ixI, if_pos hp]
theorem ixI_no (h : k < l.length) (hp : p l[k] = false) : ixI k p (l.drop k) = ixI (k + 1) p (l.drop (k + 1)) := by rw [List.drop_eq_getElem_cons h, ixI, if_neg (by simp [hp])]
theorem ixI_end (h : l.length ≤ k) : ixI k p (l.drop k) = -1 := by rw [List.drop_of_length_le h]; rfl
theorem ixI_from (p : α → Bool) (l : List α) : ∀ k, (ixI k p l = -1 ∧ ∀ x ∈ l, p x = false) ∨ ∃ j, ∃ h : j < l.length, ixI k p l = ((k + j : Nat) : Int) ∧ p l[j] = true ∧ ∀ x ∈ l.take j, p x = false := by
  induction l with
  | nil => intro k; exact .inl ⟨rfl, by simp⟩
  | cons x l ih =>
    intro k
    unfold ixI
    cases hp : p x with
    | true => exact .inr ⟨0, by simp, by simp, by simpa using hp, by simp⟩
    | false =>
      rw [if_neg (by simp)]
      rcases ih (k + 1) with ⟨h1, h2⟩ | ⟨j, h, h1, h2, h3⟩
      · refine .inl ⟨h1, fun y hy => ?_⟩
        rcases List.mem_cons.1 hy with rfl | hy
        · exact hp
        · exact h2 y hy
      · refine .inr ⟨j + 1, by simpa using h, by rw [h1]; omega, by simpa using h2, fun y hy => ?_⟩
        rw [List.take_succ_cons] at hy
        rcases List.mem_cons.1 hy with rfl | hy
        · exact hp
        · exact h3 y hy
theorem ixI_spec (p : α → Bool) (l : List α) : (ixI 0 p l = -1 ∧ ∀ x ∈ l, p x = false) ∨ ∃ j, ∃ h : j < l.length, ixI 0 p l = (j : Int) ∧ p l[j] = true ∧ ∀ x ∈ l.take j, p x = false := by
  rcases ixI_from p l 0 with h | ⟨j, h, h1, h2⟩
  · exact .inl h
  · exact .inr ⟨j, h, by simpa using h1, h2⟩
theorem filter_first {l : List α} {j : Nat} (h : j < l.length) (hp : p l[j] = true) (ha : ∀ x ∈ l.take j, p x = false) : l.take j = (l.take (j + 1)).filter (fun x => !p x) := by
  rw [List.take_succ_eq_append_getElem h, List.filter_append, List.filter_eq_self.2 (fun x hx => by rw [ha x hx]; rfl)]
  simp [hp]
theorem dl_skip {l R : List α} {a b : Nat} (hR : R.length = l.length) (h : b < l.length) (hp : p l[b] = true) (ht : R.take a = (l.take b).filter (fun x => !p x)) (hd : R.drop b = l.drop b) :
    R.take a = (l.take (b + 1)).filter (fun x => !p x) ∧ R.drop (b + 1) = l.drop (b + 1) := by
  refine ⟨?_, by rw [← List.drop_drop, hd, List.drop_drop]⟩
  rw [ht, List.take_succ_eq_append_getElem h, List.filter_append]
  simp [hp]
theorem dl_keep {l R : List α} {a b : Nat} (hR : R.length = l.length) (hab : a < b) (h : b < l.length) (hp : p l[b] = false) (ht : R.take a = (l.take b).filter (fun x => !p x)) (hd : R.drop b = l.drop b) :
    (R.set a l[b]).take (a + 1) = (l.take (b + 1)).filter (fun x => !p x) ∧ (R.set a l[b]).drop (b + 1) = l.drop (b + 1) := by
  refine ⟨?_, by rw [List.drop_set_of_lt (by omega), ← List.drop_drop, hd, List.drop_drop]⟩
  rw [List.take_succ_eq_append_getElem (by rw [List.length_set]; omega), List.take_set_of_le (Nat.le_refl _), ht, List.take_succ_eq_append_getElem h, List.filter_append]
  simp [hp]
end
attribute [irreducible] ixI
end Go.Proofs.YtppkeophochgiaaGreatDoor
/- Contracts of slices.IndexFunc and slices.DeleteFunc at a struct (a struct of two cells), whatever the predicate. Written by gen_delfn.py. -/
namespace Go.Proofs.YtppkeophochgiaaGreatDoor
open Go.RowKit
set_option linter.unusedVariables false

theorem zeroFile (w : World) : (zeroValue 130).run Tryz.prog w = .ok (.agg #[.string ⟨#[]⟩, .string ⟨#[]⟩]) w := by kernel_rfl
set_option maxRecDepth 100000 in
set_option maxHeartbeats 3200000 in
theorem ixFile_any {α : Type} (f g : α → Value) (p : α → Bool) (fn : Nat) (lb : Array Value) (eg : ∀ args w, (callFunc fn args).run Tryz.prog w = .ok (.enter fn args) w) (s : Option Addr) (n c : Nat) (l : List α) (w : World)
    (hl : SliceIs w (.slice s n c) 2 (rowc f g l)) (hp : ∀ (W : World) (x : α), x ∈ l → Below w.heap.size w W → Calls Tryz.prog fn (#[.agg #[f x, g x]] ++ lb) W fun e w' => e = .returned (.bool (p x)) ∧ Below W.heap.size W w') :
    Calls Tryz.prog 175 #[.slice s n c, .func (.func fn) #[] lb] w fun e w' => e = .returned (.int .i64 (ixI 0 p l)) ∧ Below w.heap.size w w' := by
  have hlen : l.length = n ∧ c ≤ maxLen ∧ n ≤ c := by
    obtain ⟨s0', n0', c0', e1, e2, e3, e4, _⟩ := hl.get
    cases e1
    rw [rowc_len] at e2
    exact ⟨by omega, e4, e3⟩
  obtain ⟨rfl, hc0, hc1⟩ := hlen
  unfold maxLen at hc0
  have HLS := Lib.hid hl
  have HP := Lib.hid hp
  have HI := Lib.hid (ixI_start p l)
  generalize ixI 0 p l = r at *
  clear hl hp
  go_enter Tryz.func175, Tryz.ntmps175
  go_wp2_with fail
  go_loopw [8, 5] (fun i _ wr => ∃ k : Nat, i = .int .i64 k ∧ k ≤ l.length ∧ r = ixI k p (l.drop k) ∧ Below w.heap.size w wr) (fun i _ _ => l.length - (intOf i).toNat)
  case atStart => exact ⟨0, rfl, by omega, HI.out, Below.refl _ _⟩
  case round =>
    obtain ⟨k, rfl, hk, hr, bel⟩ := hrel
    have HR := Lib.hid hr
    clear hr
    by_cases hlt : k < l.length
    · have hltI : (k : Int) < l.length := by omega
      obtain ⟨s0', n0', c0', e1, _, _, _, g1⟩ := (HLS.out.below bel).get
      cases e1
      obtain ⟨g2, g3⟩ := rowc_get f g l k hlt
      obtain ⟨ad, rfl, d0⟩ := g1 _ _ g2
      obtain ⟨a', e', d1⟩ := g1 _ _ g3
      cases e'
      clear g1 g2 g3
      have YES := Lib.hid (fun h => HR.out.trans (ixI_yes (p := p) hlt h))
      have NO := Lib.hid (fun h => HR.out.trans (ixI_no (p := p) hlt h))
      have KK := Lib.hid (show k + 1 ≤ l.length by omega)
      have x1 : (0 : Int) ≤ k := by omega
      have x2 : (k : Int).toNat = k := by omega
      have HC := Lib.hid (HP.out wr l[k] (List.getElem_mem _) bel)
      generalize l[k] = x at d0 d1 YES NO HC
      have d1 := cell_at d1
      generalize f x = fx at d0 HC
      generalize g x = gx at d1 HC
      cases hpx : p x with
      | true =>
        rw [hpx] at HC
        have Y := Lib.hid (YES.out hpx)
        clear YES NO hpx
        go_wp2_with fail
        refine HC.out.mono ?_
        rintro e w1 ⟨rfl, b1⟩
        go_wp2_with fail
        go_ret
        exact ⟨by rw [Y.out]; rfl, below_trans' bel b1⟩
      | false =>
        rw [hpx] at HC
        have Y := Lib.hid (NO.out hpx)
        clear YES NO hpx
        go_wp2_with fail
        refine HC.out.mono ?_
        rintro e w1 ⟨rfl, b1⟩
        go_wp2_with fail
        go_roundw
        case rel => exact ⟨k + 1, by go_num, KK.out, Y.out, below_trans' bel b1⟩
        case measure => simp [intOf]; omega
    · have hltI : ¬ (k : Int) < l.length := by omega
      have Y := Lib.hid (HR.out.trans (ixI_end (p := p) (by omega : l.length ≤ k)))
      go_wp2_with fail
      go_ret
      exact ⟨by rw [Y.out]; rfl, bel⟩

set_option maxRecDepth 100000 in
set_option maxHeartbeats 6400000 in
theorem delFile_any {α : Type} (f g : α → Value) (h1 : ∀ x, (f x).oneCell' = true ∧ (g x).oneCell' = true) (p : α → Bool) (fn : Nat) (lb : Array Value) (eg : ∀ args w, (callFunc fn args).run Tryz.prog w = .ok (.enter fn args) w) (base : Nat) (v : Value) (l : List α) (w : World)
    (hown : w.ownsRow base 130 2 v l.length (rowc f g l)) (hp : ∀ (W : World) (x : α), x ∈ l → Chg w W (RowOf v) → Calls Tryz.prog fn (#[.agg #[f x, g x]] ++ lb) W fun e w' => e = .returned (.bool (p x)) ∧ Below W.heap.size W w') :
    Calls Tryz.prog 142 #[v, .func (.func fn) #[] lb] w fun e w' => ∃ v', e = .returned v' ∧ w'.ownsRow base 130 2 v' (l.filter fun x => !p x).length (rowc f g (l.filter fun x => !p x)) ∧ v'.ownBlock = v.ownBlock ∧ Chg w w' (RowOf v) := by
  have hsl : SliceIs w v 2 (rowc f g l) := SliceIs.ownedK hown
  obtain ⟨s, n0, c, rfl, hn, hc1, hc0, hg⟩ := hsl.get
  have hn0 : n0 = l.length := by rw [rowc_len] at hn; omega
  subst hn0
  have IX := Lib.hid (ixFile_any f g p fn lb eg s l.length c l w hsl (fun W x hx hb => hp W x hx (Chg.of_below hb _)))
  have HP := Lib.hid hp
  have hcl := hc0
  unfold maxLen at hcl
  rcases ixI_spec p l with ⟨hi, hall⟩ | ⟨k0, hk0, hi, hpk, hall⟩
  · have HF := Lib.hid (show (l.filter fun x => !p x) = l from List.filter_eq_self.2 (fun x hx => by simp [hall x hx]))
    have HOWN := Lib.hid hown
    rw [hi] at IX
    clear hown hp hsl hg hi hall hn
    go_enter Tryz.func142, Tryz.ntmps142
    go_wp2_with fail
    refine IX.out.mono ?_
    rintro e w1 ⟨rfl, b1⟩
    go_wp2_with fail
    go_ret
    refine ⟨_, rfl, ?_, rfl, Chg.of_below b1 _⟩
    rw [HF.out]
    exact owns_below HOWN.out b1
  · rw [hi] at IX
    obtain ⟨g0, cap, hv, hgb, hgs, _, _, _, _⟩ := owns_open hown (by omega)
    cases hv
    have hne : ((k0 : Int) == -1) = false := by first | (simp; done) | (simp; omega)
    have HOWN := Lib.hid hown
    have HST := Lib.hid (show l.take k0 = (l.take (k0 + 1)).filter (fun x => !p x) from filter_first hk0 hpk hall)
    have ZV := zeroFile
    clear hown hp hsl hg hi hall hn
    go_enter Tryz.func142, Tryz.ntmps142
    go_wp2_with fail
    refine IX.out.mono ?_
    rintro e w1 ⟨rfl, b1⟩
    have C1 : Chg w w1 (RowOf (.slice (some ⟨g0, 0, none⟩) l.length c)) := Chg.of_below b1 _
    have O1 := owns_below HOWN.out b1
    go_wp2_with fail
    clear b1
    go_loopw [5, 6, 7] (fun i j _ wr => ∃ (a b : Nat) (R : List α), i = .int .i64 a ∧ j = .int .i64 b ∧ a < b ∧ b ≤ l.length ∧ R.length = l.length ∧ R.take a = (l.take b).filter (fun x => !p x) ∧ R.drop b = l.drop b ∧ wr.ownsRow base 130 2 (.slice (some ⟨g0, 0, none⟩) l.length c) l.length (rowc f g R) ∧ Chg w wr (RowOf (.slice (some ⟨g0, 0, none⟩) l.length c))) (fun _ j _ _ => l.length - (intOf j).toNat)
    case atStart => exact ⟨k0, k0 + 1, l, rfl, by go_num, by omega, by omega, rfl, HST.out, rfl, O1, C1⟩
    case round =>
      clear O1 C1
      obtain ⟨a, b, R, rfl, rfl, hab, hb, hR, htk, hdr, hown, chg⟩ := hrel
      have HTK := Lib.hid htk
      have HDR := Lib.hid hdr
      have HO := Lib.hid hown
      have HRL := Lib.hid hR
      obtain ⟨g0', cap', hv', _, hgs', _, _, hcell, hfz⟩ := owns_open hown (by omega)
      cases hv'
      clear htk hdr
      by_cases hlt : b < l.length
      · have hltI : (b : Int) < l.length := by omega
        obtain ⟨g2, g3⟩ := rowc_get f g R b (by omega)
        have hx : R[b]'(by omega) = l[b] := by
          have h1 := List.getElem_drop (xs := R) (i := b) (j := 0) (h := by rw [List.length_drop]; omega)
          have h2 := List.getElem_drop (xs := l) (i := b) (j := 0) (h := by rw [List.length_drop]; omega)
          simp only [HDR.out, Nat.add_zero] at h1 h2
          rw [← h1, ← h2]
        rw [hx] at g2 g3
        have d0 := hcell _ _ g2
        have d1 := hcell _ _ g3
        obtain ⟨k2, k3⟩ := rowc_get f g R a (by omega)
        have o0 := hcell _ _ k2
        have o1 := hcell _ _ k3
        have z0 := hfz (a * 2)
        have z1 := hfz (a * 2 + 1)
        have HC := Lib.hid (fun W hW => HP.out W l[b] (List.getElem_mem _) hW)
        have SK := Lib.hid (fun h => dl_skip (p := p) (a := a) HRL.out hlt h HTK.out HDR.out)
        have KP := Lib.hid (fun h => dl_keep (p := p) (a := a) HRL.out hab hlt h HTK.out HDR.out)
        have H1 := Lib.hid (h1 l[b])
        generalize l[b] = x at d0 d1 HC SK KP H1
        generalize hfx : f x = fx at d0 HC
        generalize hgx : g x = gx at d1 HC
        have HFX := Lib.hid hfx
        have HGX := Lib.hid hgx
        obtain ⟨e0, e1⟩ := H1.out
        rw [hfx] at e0
        rw [hgx] at e1
        have hs0 : ∀ (a : Addr) (m : Mode) (w : World), Sem.run Tryz.prog (store a fx m) w = stored Tryz.prog w a fx m := fun a m w => run_store _ _ _ _ m e0
        have hs1 : ∀ (a : Addr) (m : Mode) (w : World), Sem.run Tryz.prog (store a gx m) w = stored Tryz.prog w a gx m := fun a m w => run_store _ _ _ _ m e1
        generalize f R[a] = ox0 at *
        generalize g R[a] = ox1 at *
        clear g2 g3 k2 k3 hcell hx hfx hgx hown hR
        have KK := Lib.hid (show b + 1 ≤ l.length by omega)
        have x1 : (0 : Int) ≤ a := by omega
        have x2 : (a : Int).toNat = a := by omega
        have x3 : (0 : Int) ≤ b := by omega
        have x4 : (b : Int).toNat = b := by omega
        have x5 : (a : Int) < l.length := by omega
        have cA := chg.alloc (.cells #[fx, gx] 130)
        cases hpx : p x with
        | true =>
          have Y := Lib.hid (SK.out hpx)
          rw [hpx] at HC
          clear SK KP hpx o0 o1 z0 z1
          go_wp2_with fail
          refine (HC.out _ cA).mono ?_
          rintro e w2 ⟨rfl, b2⟩
          go_wp2_with fail
          go_roundw
          case rel => exact ⟨a, b + 1, R, rfl, by go_num, by omega, KK.out, HRL.out, Y.out.1, Y.out.2, owns_below (HO.out.alloc _) b2, cA.trans (Chg.of_below b2 _) (fun x _ h => h)⟩
          case measure => simp [intOf]; omega
        | false =>
          have Y := Lib.hid (KP.out hpx)
          rw [hpx] at HC
          clear SK KP hpx
          go_wp2_with fail
          refine (HC.out _ cA).mono ?_
          rintro e w2 ⟨rfl, b2⟩
          have O2 := owns_below (HO.out.alloc (.cells #[fx, gx] 130)) b2
          have al0 : w2.cell? ⟨wr.heap.size, 0, none⟩ = some fx := (b2.cell (p := ⟨wr.heap.size, 0, none⟩) (by simp)).trans (by simp)
          have al1 : w2.cell? ⟨wr.heap.size, 1, none⟩ = some gx := (b2.cell (p := ⟨wr.heap.size, 1, none⟩) (by simp)).trans (by simp)
          have p0 : w2.cell? ⟨g0, a * 2, none⟩ = some ox0 := (b2.cell (p := ⟨g0, a * 2, none⟩) (by simp; omega)).trans (Lib.cell?_alloc_some _ o0)
          have p1 : w2.cell? ⟨g0, a * 2 + 1, none⟩ = some ox1 := (b2.cell (p := ⟨g0, a * 2 + 1, none⟩) (by simp; omega)).trans (Lib.cell?_alloc_some _ o1)
          have q0 : w2.frozen? ⟨g0, a * 2, none⟩ = false := O2.frozenAt _
          have q1 : w2.frozen? ⟨g0, a * 2 + 1, none⟩ = false := O2.frozenAt _
          have C2 := cA.trans (Chg.of_below b2 _) (fun x _ h => h)
          have HO2 := Lib.hid O2
          clear O2 o0 o1 z0 z1 d0 d1 hfz
          go_wp2_with fail
          go_roundw
          case rel =>
            have ST := own2_store f g HO2.out a x
            rw [HFX.out, HGX.out] at ST
            exact ⟨a + 1, b + 1, R.set a x, by go_num, by go_num, by omega, KK.out, by rw [List.length_set]; exact HRL.out, Y.out.1, Y.out.2, ST, (C2.set ⟨g0, a * 2, none⟩ (.inl rfl) fx).set ⟨g0, a * 2 + 1, none⟩ (.inl rfl) gx⟩
          case measure => simp [intOf]; omega
      · have hltI : ¬ (b : Int) < l.length := by omega
        obtain rfl : b = l.length := by omega
        obtain ⟨w3, hrun, O3, G3⟩ := run_clear_own (P := Tryz.prog) (t := 33) (k := a) hown (by omega) (by decide) Tryz.underlying33 (ZV wr) rfl (by intro u hu; simp [Value.cells] at hu; rcases hu with rfl | rfl <;> rfl)
        have HTL := HTK.out
        rw [List.take_length] at HTL
        have HLEN : (l.filter fun x => !p x).length = a := by rw [← HTL, List.length_take]; omega
        have HFL := Lib.hid (show rowc f g (l.filter fun x => !p x) = (rowc f g R).take (a * 2) by rw [rowc_take, HTL])
        have HLN := Lib.hid HLEN
        clear HTL HLEN hown hfz hcell
        have x1 : (0 : Int) ≤ a := by omega
        have x2 : (a : Int).toNat = a := by omega
        have x5 : (a : Int) ≤ l.length := by omega
        have HO3 := Lib.hid O3
        have G := Lib.hid G3
        clear O3 G3 hR
        go_wp2_with fail
        go_ret
        rw [HLN.out, HFL.out]
        exact ⟨_, rfl, HO3.out, rfl, chg.trans (Chg.of_grown G.out) (fun x _ h => by subst h; rfl)⟩
end Go.Proofs.YtppkeophochgiaaGreatDoor
/- Bytes of the call's own in whatever row: made by append, or by a conversion, or cut; 'append' of a string onto them. -/
namespace Go.Proofs.YtppkeophochgiaaGreatDoor
open Go.RowKit
set_option linter.unusedVariables false

/-- a row's mark lies behind its cells -/
def Free (n : Nat) (fr : Nat × Nat) : Prop := ∀ j, j < n → ¬ (fr.1 ≤ j ∧ j < fr.2)
theorem Free.zero (n : Nat) : Free n (0, 0) := fun j _ h => by omega
def BufIs (w : World) (base : Nat) (e : TypeId) (v : Value) (xs : List Value) : Prop :=
  (v = .slice none 0 0 ∧ xs = []) ∨ ∃ g cap cur fr, v = .slice (some ⟨g, 0, none⟩) xs.length cap ∧ base ≤ g ∧ w.heap[g]? = some (.cells cur e fr) ∧ Free cur.size fr ∧ xs.length ≤ cap ∧ cap ≤ cur.size ∧ cap ≤ maxLen ∧ cur.toList.take xs.length = xs
theorem frozen_free {w : World} {g : Nat} {cur : Array Value} {e : TypeId} {fr : Nat × Nat} (hg : w.heap[g]? = some (.cells cur e fr)) (hf : Free cur.size fr) (j : Nat) (hj : j < cur.size) : w.frozen? ⟨g, j, none⟩ = false := by
  obtain ⟨lo, hi⟩ := fr
  have := hf j hj
  simp only [World.frozen?, hg]
  simp only [Bool.and_eq_false_iff, decide_eq_false_iff_not]
  simp only at this
  omega
theorem run_storeCells_free (P : Program) (g o : Nat) (t : TypeId) (fr : Nat × Nat) : ∀ (vs : List Value) (i : Nat) (cur : Array Value) (w : World), w.heap[g]? = some (.cells cur t fr) → Free cur.size fr → o + i + vs.length ≤ cur.size → (∀ v ∈ vs, v.oneCell' = true) →
    (storeCells ⟨g, o, none⟩ vs i).run P w = .ok () (w.setRow g (cur.toList.take (o + i) ++ vs ++ cur.toList.drop (o + i + vs.length)).toArray)
  | [], i, cur, w, hg, _, _, _ => by
    simp only [storeCells, List.append_nil, List.length_nil, Nat.add_zero, List.take_append_drop, Array.toArray_toList]
    rw [setRow_self w g cur t fr hg]
    rfl
  | v :: rest, i, cur, w, hg, hf, hl, h1 => by
    have hi : o + i < cur.size := by simp at hl; omega
    have hadd : (⟨g, o, none⟩ : Addr).add i = ⟨g, o + i, none⟩ := by unfold Addr.add; split <;> simp_all
    have hcell : w.cell? ⟨g, o + i, none⟩ = some cur[o + i] := by simp [World.cell?, hg, hi]
    have hfro : w.frozen? ⟨g, o + i, none⟩ = false := frozen_free hg hf _ hi
    have hst : (store ((⟨g, o, none⟩ : Addr).add i) v).run P w = .ok () (w.setRow g (cur.setIfInBounds (o + i) v)) := by
      rw [hadd, run_store P w _ v _ (h1 v (by simp)), hcell]
      simp [hfro, setCell_eq_setRow w g (o + i) cur t fr v hg]
    have ih := run_storeCells_free P g o t fr rest (i + 1) (cur.setIfInBounds (o + i) v) (w.setRow g (cur.setIfInBounds (o + i) v)) (setRow_heap w g cur _ t _ hg) (by simpa using hf) (by simp at hl ⊢; omega) (fun x hx => h1 x (by simp [hx]))
    simp only [storeCells, Sem.run_bind, hst, Result.andThen_ok, ih, setRow_setRow]
    congr 3
    have e := list_seg_step cur.toList (o + i) v rest (by simp at hl ⊢; omega)
    simpa [Array.toList_setIfInBounds, Nat.add_assoc] using e
theorem run_append_room_free {P : Program} (w : World) (t u ty e : TypeId) (i : TypeInfo) (ht : P.underlying t = some (.slice e)) (hu : P.underlying u = some .string) (hi : P.info? e = some i) (hs1 : i.size = 1)
    (g sLen sCap : Nat) (cur : Array Value) (fr : Nat × Nat) (hg : w.heap[g]? = some (.cells cur e fr)) (hf : Free cur.size fr) (s : ByteArray) (hroom : sLen + s.size ≤ sCap) (hfit : sLen + s.size ≤ cur.size) :
    (Builtin.append_ #[t, u] ty #[.slice (some ⟨g, 0, none⟩) sLen sCap, .string s]).run P w =
      .ok (.slice (some ⟨g, 0, none⟩) (sLen + s.size) sCap) (w.setRow g (cur.toList.take sLen ++ Lib.strCells s ++ cur.toList.drop (sLen + s.size)).toArray) := by
  have hf1 := Lib.run_firstCells_string (P := P) w 1 s
  have hst := run_storeCells_free P g sLen e fr (Lib.strCells s) 0 cur w hg hf (by simpa [Lib.strCells_length] using hfit) (Lib.strCells_oneCell s)
  simp only [Nat.add_zero, Lib.strCells_length] at hst
  simp [Builtin.append_, run_underlying ht, run_underlying hu, sizeOf, typeInfo, hi, hs1, Builtin.lenOf, hroom, hf1, Addr.add_lit, hst]
theorem BufIs.cells {w : World} {base : Nat} {e : TypeId} {v : Value} {xs : List Value} (h : BufIs w base e v xs) {a : Addr} {n c : Nat} (hv : v = .slice (some a) n c) : n = xs.length ∧ a.off = 0 ∧ a.spot = none ∧ ∀ j u, xs[j]? = some u → w.cell? (a.add j) = some u := by
  rcases h with ⟨rfl, rfl⟩ | ⟨g, cap, cur, fr, rfl, hb, hg, hf, h1, h2, h3, h4⟩
  · cases hv
  · cases hv
    refine ⟨rfl, rfl, rfl, fun j u hj => ?_⟩
    have hadd : (⟨g, 0, none⟩ : Addr).add j = ⟨g, j, none⟩ := by unfold Addr.add; split <;> simp_all
    rw [hadd, cell_of_row w g j cur e fr hg]
    have hjl : j < xs.length := (List.getElem?_eq_some_iff.1 hj).1
    rw [← h4, List.getElem?_take, if_pos hjl] at hj
    simpa using hj
theorem BufIs.slice {w : World} {base : Nat} {e : TypeId} {v : Value} {xs : List Value} (h : BufIs w base e v xs) : SliceIs w v 1 xs := by
  rcases h with ⟨rfl, rfl⟩ | ⟨g, cap, cur, fr, rfl, hb, hg, hf, h1, h2, h3, h4⟩
  · exact .inl ⟨rfl, rfl⟩
  · exact .inr ⟨_, _, cap, rfl, h1, h3, by simp, (BufIs.cells (.inr ⟨g, cap, cur, fr, rfl, hb, hg, hf, h1, h2, h3, h4⟩ : BufIs w base e _ xs) rfl).2.2.2⟩
theorem BufIs.val {w : World} {base : Nat} {e : TypeId} {v : Value} {xs : List Value} (h : BufIs w base e v xs) : ∃ a c, v = .slice a xs.length c := by
  rcases h with ⟨rfl, rfl⟩ | ⟨g, cap, cur, fr, rfl, _⟩
  · exact ⟨_, _, rfl⟩
  · exact ⟨_, _, rfl⟩
theorem BufIs.val3 {w : World} {base : Nat} {e : TypeId} {v : Value} {xs : List Value} (h : BufIs w base e v xs) : ∃ a n c, v = .slice a n c := by
  obtain ⟨a, c, e⟩ := h.val
  exact ⟨a, _, c, e⟩
theorem BufIs.at {w : World} {base : Nat} {e : TypeId} {v : Value} {xs : List Value} (h : BufIs w base e v xs) {b : Nat} (hb : v.ownBlock = some b) : base ≤ b ∧ b < w.heap.size := by
  rcases h with ⟨rfl, rfl⟩ | ⟨g, cap, cur, fr, rfl, h0, hg, _⟩
  · cases hb
  · cases hb; exact ⟨h0, lt_of_block hg⟩
/-- a world that leaves its block alone -/
theorem BufIs.kept {w w' : World} {base : Nat} {e : TypeId} {v : Value} {xs : List Value} (h : BufIs w base e v xs) (hk : ∀ b, v.ownBlock = some b → w'.heap[b]? = w.heap[b]?) : BufIs w' base e v xs := by
  rcases h with h | ⟨g, cap, cur, fr, rfl, hb, hg, hr⟩
  · exact .inl h
  · exact .inr ⟨g, cap, cur, fr, rfl, hb, (hk g rfl).trans hg, hr⟩
theorem BufIs.below {w w' : World} {base : Nat} {e : TypeId} {v : Value} {xs : List Value} (h : BufIs w base e v xs) (hb : Below w.heap.size w w') : BufIs w' base e v xs :=
  h.kept fun b hb' => hb.block b (h.at hb').2
theorem BufIs.drew {w : World} {base : Nat} {e : TypeId} {v : Value} {xs : List Value} (h : BufIs w base e v xs) : BufIs w.drew base e v xs := h.kept fun _ _ => rfl
theorem BufIs.nil (w : World) (base : Nat) (e : TypeId) : BufIs w base e (.slice none 0 0) [] := .inl ⟨rfl, rfl⟩
theorem BufIs.conv (w : World) (base : Nat) (e : TypeId) (s : ByteArray) (hb : base ≤ w.heap.size) (hs : s.size ≤ maxLen) : BufIs (Lib.bytesWorld w e s) base e (.slice (some ⟨w.heap.size, 0, none⟩) s.size (grownCap w s.size 0 e)) (Lib.strCells s) := by
  have hl := Lib.strCells_length s
  have hc : (Lib.bytesCells w e s).size = grownCap w s.size 0 e := by
    have := grownCap_ge w s.size 0 e
    have h2 : s.data.size = s.size := rfl
    simp only [Lib.bytesCells, Array.size_append, Array.size_map, Array.size_replicate, h2]
    omega
  refine .inr ⟨w.heap.size, grownCap w s.size 0 e, _, _, by rw [hl], hb, Lib.bytesWorld_at_new w e s, fun j hj h => by simp only at h; omega, by rw [hl]; exact grownCap_ge _ _ _ _, Nat.le_of_eq hc.symm, grownCap_le_maxLen w _ _ _ hs, ?_⟩
  have e1 : (Lib.bytesCells w e s).toList = Lib.strCells s ++ List.replicate (grownCap w s.size 0 e - s.size) (.int .u8 0) := by simp [Lib.bytesCells, Lib.strCells]
  rw [e1]; exact List.take_left
/-- cut at n, the room too -/
theorem BufIs.cut {w : World} {base : Nat} {e : TypeId} {a : Addr} {n c : Nat} {xs : List Value} (h : BufIs w base e (.slice (some a) n c) xs) (k : Nat) (hk : k ≤ xs.length) : BufIs w base e (.slice (some a) k k) (xs.take k) := by
  rcases h with ⟨h, _⟩ | ⟨g, cap, cur, fr, hv, hb, hg, hf, h1, h2, h3, h4⟩
  · cases h
  · cases hv
    refine .inr ⟨g, k, cur, fr, by rw [List.length_take, Nat.min_eq_left hk], hb, hg, hf, by rw [List.length_take]; omega, by omega, by omega, ?_⟩
    rw [List.length_take, Nat.min_eq_left hk]
    conv => rhs; rw [← h4]
    rw [List.take_take, Nat.min_eq_left hk]
theorem run_append_buf {P : Program} (w : World) (base : Nat) (t u ty e : TypeId) (i : TypeInfo) (ht : P.underlying t = some (.slice e)) (hu : P.underlying u = some .string) (hi : P.info? e = some i) (hz : i.zero = some (.int .u8 0))
    (hsize : i.size = 1) (hby : i.bytes = 1) (v : Value) (xs : List Value) (h : BufIs w base e v xs) (s : ByteArray) (h63 : xs.length + s.size ≤ 140737488355328) (hbase : base ≤ w.heap.size) :
    ∃ v' w', (Builtin.append_ #[t, u] ty #[v, .string s]).run P w = .ok v' w' ∧ BufIs w' base e v' (xs ++ Lib.strCells s) ∧ w.grownBy w' v.ownBlock ∧ (v'.ownBlock = v.ownBlock ∨ v'.ownBlock = some w.heap.size) := by
  have hml : (140737488355328 : Nat) ≤ maxLen := by unfold maxLen; omega
  have hlen : (xs ++ Lib.strCells s).length = xs.length + s.size := by rw [List.length_append, Lib.strCells_length]
  have grown : ∀ (old : Nat), old < xs.length + s.size → ∀ (row : Option Nat),
      BufIs (w.drew.alloc (.cells (xs.toArray ++ (Lib.strCells s).toArray ++ Builtin.zeroCells (Value.int .u8 0).cells (grownCap w (xs.length + s.size) old e - (xs.length + s.size))) e)) base e
        (.slice (some ⟨w.heap.size, 0, none⟩) (xs.length + s.size) (grownCap w (xs.length + s.size) old e)) (xs ++ Lib.strCells s) ∧
      w.grownBy (w.drew.alloc (.cells (xs.toArray ++ (Lib.strCells s).toArray ++ Builtin.zeroCells (Value.int .u8 0).cells (grownCap w (xs.length + s.size) old e - (xs.length + s.size))) e)) row := by
    intro old ho row
    have hge := grownCap_ge w (xs.length + s.size) old e
    have hcm : grownCap w (xs.length + s.size) old e ≤ maxLen := grownCap_le_maxLen w _ old e (by omega)
    refine ⟨.inr ⟨w.heap.size, _, _, (0, 0), by rw [hlen], hbase, heap_alloc_new w.drew _, Free.zero _, by rw [hlen]; exact hge, ?_, hcm, ?_⟩, ⟨rfl, rfl, rfl, by simp, fun k hk _ => Below.heap_alloc w.drew _ k hk⟩⟩
    · have hz1 : (Value.int IntKind.u8 0).cells.size = 1 := rfl
      simp only [Array.size_append, List.size_toArray, size_zeroCells, hz1, Lib.strCells_length]
      omega
    · simp only [Array.toList_append, List.append_assoc]
      rw [← List.append_assoc]
      exact List.take_left
  rcases h with ⟨rfl, rfl⟩ | ⟨g, cap, cur, fr, rfl, hbg, hg, hf, hnc, hcs, hcm, htake⟩
  · by_cases hm : s.size = 0
    · have hn : Lib.strCells s = [] := List.eq_nil_of_length_eq_zero (by rw [Lib.strCells_length]; exact hm)
      refine ⟨.slice none 0 0, w, ?_, by rw [hn]; exact BufIs.nil w base e, ⟨rfl, rfl, rfl, Nat.le_refl _, fun _ _ _ => rfl⟩, .inl rfl⟩
      have hf := Lib.run_firstCells_string (P := P) w 1 s
      rw [hm] at hf
      simp [Builtin.append_, run_underlying ht, run_underlying hu, sizeOf, typeInfo, hi, hsize, Builtin.lenOf, hm, hf]
    · have hr := run_append_nil_string (P := P) w t u ty e i (.int .u8 0) ht hu hi hz s (by omega) (by simp at h63; omega) (by rw [hby]; simp at h63; omega)
      have hgr := grown 0 (by simp; omega) (Value.ownBlock (.slice none 0 0))
      simp only [List.length_nil, Nat.zero_add, List.nil_append, Array.empty_append] at hgr ⊢
      have e1 : (s.data.map fun b => Value.int .u8 b.toNat) = (Lib.strCells s).toArray := by
        apply Array.ext'
        simp [Lib.strCells]
      rw [e1] at hr
      exact ⟨_, _, hr, by simpa using hgr.1, by simpa using hgr.2, .inr rfl⟩
  · have h' : BufIs w base e (.slice (some ⟨g, 0, none⟩) xs.length cap) xs := .inr ⟨g, cap, cur, fr, rfl, hbg, hg, hf, hnc, hcs, hcm, htake⟩
    by_cases hroom : xs.length + s.size ≤ cap
    · have hr := run_append_room_free (P := P) w t u ty e i ht hu hi hsize g xs.length cap cur fr hg hf s hroom (by omega)
      have hsz : (cur.toList.take xs.length ++ Lib.strCells s ++ cur.toList.drop (xs.length + s.size)).toArray.size = cur.size := by
        simp only [List.size_toArray, List.length_append, List.length_take, List.length_drop, Array.length_toList, Lib.strCells_length]
        omega
      refine ⟨_, _, hr, .inr ⟨g, cap, _, fr, by rw [hlen], hbg, setRow_heap w g cur _ e _ hg, by rw [hsz]; exact hf, by omega, by rw [hsz]; exact hcs, hcm, ?_⟩, ⟨rfl, rfl, rfl, by simp, fun k _ hk => setRow_other w g k _ (fun e => hk (by simp [Value.ownBlock, e]))⟩, .inl rfl⟩
      rw [htake]
      simp only [List.append_assoc]
      rw [← List.append_assoc]
      exact List.take_left
    · have holds := (h'.cells rfl).2.2.2
      have hr := Lib.run_append_grow_string (P := P) w t u ty e i (.int .u8 0) ht hu hi hz ⟨g, 0, none⟩ xs.length cap xs (by rw [hsize, Nat.mul_one]) holds s (by omega) (by omega) (by rw [hby]; exact growslice_fits (by omega) (by omega))
      have hgr := grown cap (by omega) (Value.ownBlock (.slice (some ⟨g, 0, none⟩) xs.length cap))
      exact ⟨_, _, hr, hgr.1, hgr.2, .inr rfl⟩
theorem wpList_append_buf {P : Program} {w : World} {ops : Array Oper} {rest : List Oper} {o : Oper} {a : Act} {Q : Exit → Act → World → Prop} (hgd : o.guard = none) (sl x : Operand) (t u : TypeId)
    (ho : o.op = .call { callee := .builtin .append, args := #[sl, x], argTypes := #[t, u] })
    (base : Nat) (e : TypeId) (i : TypeInfo) (ht : P.underlying t = some (.slice e)) (hu : P.underlying u = some .string) (hi : P.info? e = some i) (hz : i.zero = some (.int .u8 0)) (hsize : i.size = 1) (hby : i.bytes = 1)
    (v : Value) (xs : List Value) (hs : a.eval sl = v) (hown : BufIs w base e v xs) (s : ByteArray) (hx : a.eval x = .string s) (h63 : xs.length + s.size ≤ 140737488355328) (hbase : base ≤ w.heap.size)
    (h : ∀ v' w', BufIs w' base e v' (xs ++ Lib.strCells s) → w.grownBy w' v.ownBlock → (v'.ownBlock = v.ownBlock ∨ v'.ownBlock = some w.heap.size) → wpList P ops Q rest (a.put o.dst v') w') : wpList P ops Q (o :: rest) a w := by
  refine wpList_plain hgd fun K hK => ?_
  obtain ⟨v', w', hr, h2, h3, h4⟩ := run_append_buf (P := P) w base t u o.type e i ht hu hi hz hsize hby v xs hown s h63 hbase
  unfold Oper.wp execOp
  simp only [ho, resolve, invoke, builtin, Sem.run_bind, Sem.run_pure, Result.andThen_ok, List.map_toArray, List.map_cons, List.map_nil, hs, hx, hr]
  exact hK _ _ (h v' w' h2 h3 h4)
/-- as one step of a region that draws its order -/
theorem step_append_buf {P : Program} {ops : Array Oper} {o : Oper} {a : Act} {w : World} {K : Act → World → Prop} {Q : Exit → Act → World → Prop} {E : Prop}
    (hg : o.guard = none) (sl x : Operand) (t u : TypeId) (ho : o.op = .call { callee := .builtin .append, args := #[sl, x], argTypes := #[t, u] })
    (base : Nat) (e : TypeId) (i : TypeInfo) (ht : P.underlying t = some (.slice e)) (hu : P.underlying u = some .string) (hi : P.info? e = some i) (hz : i.zero = some (.int .u8 0)) (hsize : i.size = 1) (hby : i.bytes = 1)
    (v : Value) (xs : List Value) (hs : a.eval sl = v) (hown : BufIs w base e v xs) (s : ByteArray) (hx : a.eval x = .string s) (h63 : xs.length + s.size ≤ 140737488355328) (hbase : base ≤ w.heap.size)
    (h : ∀ v' w', BufIs w' base e v' (xs ++ Lib.strCells s) → w.grownBy w' v.ownBlock → (v'.ownBlock = v.ownBlock ∨ v'.ownBlock = some w.heap.size) → K (a.put o.dst v') w') :
    if Region.wanted o (yielded ops a.tmps) = true then Oper.wp P o a w K Q else E := by
  have hw : Region.wanted o (yielded ops a.tmps) = true := by simp [Region.wanted, hg]
  rw [if_pos hw]
  obtain ⟨v', w', hr, h2, h3, h4⟩ := run_append_buf (P := P) w base t u o.type e i ht hu hi hz hsize hby v xs hown s h63 hbase
  unfold Oper.wp execOp
  simp only [ho, resolve, invoke, builtin, Sem.run_bind, Sem.run_pure, Result.andThen_ok, List.map_toArray, List.map_cons, List.map_nil, hs, hx, hr]
  exact h v' w' h2 h3 h4
end Go.Proofs.YtppkeophochgiaaGreatDoor
