/- Texts of one proof, one behind the other: DelFile. -/
import Derived.Test.YtdpoalbbcmkceaaGreatDoorB17
import Derived.Lib.SliceRun
/- Contracts of slices.IndexFunc and slices.DeleteFunc at a struct (a struct of two cells), whatever the predicate. Written by gen_delfn.py. -/
namespace Go.Proofs.YtdpoalbbcmkceaaGreatDoor
open Go.RowKit
set_option linter.unusedVariables false

theorem zeroFile (w : World) : (zeroValue 49).run Tryz.prog w = .ok (.agg #[.string ⟨#[]⟩, .string ⟨#[]⟩]) w := by kernel_rfl
set_option maxRecDepth 100000 in
set_option maxHeartbeats 3200000 in
theorem ixFile_any {α : Type} (f g : α → Value) (p : α → Bool) (fn : Nat) (lb : Array Value) (eg : ∀ args w, (callFunc fn args).run Tryz.prog w = .ok (.enter fn args) w) (s : Option Addr) (n c : Nat) (l : List α) (w : World)
    (hl : SliceIs w (.slice s n c) 2 (rowc f g l)) (hp : ∀ (W : World) (x : α), x ∈ l → Below w.heap.size w W → Calls Tryz.prog fn (#[.agg #[f x, g x]] ++ lb) W fun e w' => e = .returned (.bool (p x)) ∧ Below W.heap.size W w') :
    Calls Tryz.prog 118 #[.slice s n c, .func (.func fn) #[] lb] w fun e w' => e = .returned (.int .i64 (ixI 0 p l)) ∧ Below w.heap.size w w' := by
  have hlen : l.length = n ∧ c ≤ maxLen ∧ n ≤ c := by
    obtain ⟨s0', n0', c0', e1, e2, e3, e4, _⟩ := hl.get
    cases e1
    rw [rowc_len] at e2
    exact ⟨by omega, e4, e3⟩
  obtain ⟨rfl, hc0, hc1⟩ := hlen
  unfold maxLen at hc0
  have HLS := Lib.hid hl
  have HP := Lib.hid hp
  have HI := Lib.hid (ixI_start p l)
  generalize ixI 0 p l = r at *
  clear hl hp
  go_enter Tryz.func118, Tryz.ntmps118
  go_wp2_with fail
  go_loopw [8, 5] (fun i _ wr => ∃ k : Nat, i = .int .i64 k ∧ k ≤ l.length ∧ r = ixI k p (l.drop k) ∧ Below w.heap.size w wr) (fun i _ _ => l.length - (intOf i).toNat)
  case atStart => exact ⟨0, rfl, by omega, HI.out, Below.refl _ _⟩
  case round =>
    obtain ⟨k, rfl, hk, hr, bel⟩ := hrel
    have HR := Lib.hid hr
    clear hr
    by_cases hlt : k < l.length
    · have hltI : (k : Int) < l.length := by omega
      obtain ⟨s0', n0', c0', e1, _, _, _, g1⟩ := (HLS.out.below bel).get
      cases e1
      obtain ⟨g2, g3⟩ := rowc_get f g l k hlt
      obtain ⟨ad, rfl, d0⟩ := g1 _ _ g2
      obtain ⟨a', e', d1⟩ := g1 _ _ g3
      cases e'
      clear g1 g2 g3
      have YES := Lib.hid (fun h => HR.out.trans (ixI_yes (p := p) hlt h))
      have NO := Lib.hid (fun h => HR.out.trans (ixI_no (p := p) hlt h))
      have KK := Lib.hid (show k + 1 ≤ l.length by omega)
      have x1 : (0 : Int) ≤ k := by omega
      have x2 : (k : Int).toNat = k := by omega
      have HC := Lib.hid (HP.out wr l[k] (List.getElem_mem _) bel)
      generalize l[k] = x at d0 d1 YES NO HC
      have d1 := cell_at d1
      generalize f x = fx at d0 HC
      generalize g x = gx at d1 HC
      cases hpx : p x with
      | true =>
        rw [hpx] at HC
        have Y := Lib.hid (YES.out hpx)
        clear YES NO hpx
        go_wp2_with fail
        refine HC.out.mono ?_
        rintro e w1 ⟨rfl, b1⟩
        go_wp2_with fail
        go_ret
        exact ⟨by rw [Y.out]; rfl, below_trans' bel b1⟩
      | false =>
        rw [hpx] at HC
        have Y := Lib.hid (NO.out hpx)
        clear YES NO hpx
        go_wp2_with fail
        refine HC.out.mono ?_
        rintro e w1 ⟨rfl, b1⟩
        go_wp2_with fail
        go_roundw
        case rel => exact ⟨k + 1, by go_num, KK.out, Y.out, below_trans' bel b1⟩
        case measure => simp [intOf]; omega
    · have hltI : ¬ (k : Int) < l.length := by omega
      have Y := Lib.hid (HR.out.trans (ixI_end (p := p) (by omega : l.length ≤ k)))
      go_wp2_with fail
      go_ret
      exact ⟨by rw [Y.out]; rfl, bel⟩

set_option maxRecDepth 100000 in
set_option maxHeartbeats 6400000 in
theorem delFile_any {α : Type} (f g : α → Value) (h1 : ∀ x, (f x).oneCell' = true ∧ (g x).oneCell' = true) (p : α → Bool) (fn : Nat) (lb : Array Value) (eg : ∀ args w, (callFunc fn args).run Tryz.prog w = .ok (.enter fn args) w) (base : Nat) (v : Value) (l : List α) (w : World)
    (hown : w.ownsRow base 49 2 v l.length (rowc f g l)) (hp : ∀ (W : World) (x : α), x ∈ l → Chg w W (RowOf v) → Calls Tryz.prog fn (#[.agg #[f x, g x]] ++ lb) W fun e w' => e = .returned (.bool (p x)) ∧ Below W.heap.size W w') :
    Calls Tryz.prog 87 #[v, .func (.func fn) #[] lb] w fun e w' => ∃ v', e = .returned v' ∧ w'.ownsRow base 49 2 v' (l.filter fun x => !p x).length (rowc f g (l.filter fun x => !p x)) ∧ v'.ownBlock = v.ownBlock ∧ Chg w w' (RowOf v) := by
  have hsl : SliceIs w v 2 (rowc f g l) := SliceIs.ownedK hown
  obtain ⟨s, n0, c, rfl, hn, hc1, hc0, hg⟩ := hsl.get
  have hn0 : n0 = l.length := by rw [rowc_len] at hn; omega
  subst hn0
  have IX := Lib.hid (ixFile_any f g p fn lb eg s l.length c l w hsl (fun W x hx hb => hp W x hx (Chg.of_below hb _)))
  have HP := Lib.hid hp
  have hcl := hc0
  unfold maxLen at hcl
  rcases ixI_spec p l with ⟨hi, hall⟩ | ⟨k0, hk0, hi, hpk, hall⟩
  · have HF := Lib.hid (show (l.filter fun x => !p x) = l from List.filter_eq_self.2 (fun x hx => by simp [hall x hx]))
    have HOWN := Lib.hid hown
    rw [hi] at IX
    clear hown hp hsl hg hi hall hn
    go_enter Tryz.func87, Tryz.ntmps87
    go_wp2_with fail
    refine IX.out.mono ?_
    rintro e w1 ⟨rfl, b1⟩
    go_wp2_with fail
    go_ret
    refine ⟨_, rfl, ?_, rfl, Chg.of_below b1 _⟩
    rw [HF.out]
    exact owns_below HOWN.out b1
  · rw [hi] at IX
    obtain ⟨g0, cap, hv, hgb, hgs, _, _, _, _⟩ := owns_open hown (by omega)
    cases hv
    have hne : ((k0 : Int) == -1) = false := by first | (simp; done) | (simp; omega)
    have HOWN := Lib.hid hown
    have HST := Lib.hid (show l.take k0 = (l.take (k0 + 1)).filter (fun x => !p x) from filter_first hk0 hpk hall)
    have ZV := zeroFile
    clear hown hp hsl hg hi hall hn
    go_enter Tryz.func87, Tryz.ntmps87
    go_wp2_with fail
    refine IX.out.mono ?_
    rintro e w1 ⟨rfl, b1⟩
    have C1 : Chg w w1 (RowOf (.slice (some ⟨g0, 0, none⟩) l.length c)) := Chg.of_below b1 _
    have O1 := owns_below HOWN.out b1
    go_wp2_with fail
    clear b1
    go_loopw [5, 6, 7] (fun i j _ wr => ∃ (a b : Nat) (R : List α), i = .int .i64 a ∧ j = .int .i64 b ∧ a < b ∧ b ≤ l.length ∧ R.length = l.length ∧ R.take a = (l.take b).filter (fun x => !p x) ∧ R.drop b = l.drop b ∧ wr.ownsRow base 49 2 (.slice (some ⟨g0, 0, none⟩) l.length c) l.length (rowc f g R) ∧ Chg w wr (RowOf (.slice (some ⟨g0, 0, none⟩) l.length c))) (fun _ j _ _ => l.length - (intOf j).toNat)
    case atStart => exact ⟨k0, k0 + 1, l, rfl, by go_num, by omega, by omega, rfl, HST.out, rfl, O1, C1⟩
    case round =>
      clear O1 C1
      obtain ⟨a, b, R, rfl, rfl, hab, hb, hR, htk, hdr, hown, chg⟩ := hrel
      have HTK := Lib.hid htk
      have HDR := Lib.hid hdr
      have HO := Lib.hid hown
      have HRL := Lib.hid hR
      obtain ⟨g0', cap', hv', _, hgs', _, _, hcell, hfz⟩ := owns_open hown (by omega)
      cases hv'
      clear htk hdr
      by_cases hlt : b < l.length
      · have hltI : (b : Int) < l.length := by omega
        obtain ⟨g2, g3⟩ := rowc_get f g R b (by omega)
        have hx : R[b]'(by omega) = l[b] := by
          have h1 := List.getElem_drop (xs := R) (i := b) (j := 0) (h := by rw [List.length_drop]; omega)
          have h2 := List.getElem_drop (xs := l) (i := b) (j := 0) (h := by rw [List.length_drop]; omega)
          simp only [HDR.out, Nat.add_zero] at h1 h2
          rw [← h1, ← h2]
        rw [hx] at g2 g3
        have d0 := hcell _ _ g2
        have d1 := hcell _ _ g3
        obtain ⟨k2, k3⟩ := rowc_get f g R a (by omega)
        have o0 := hcell _ _ k2
        have o1 := hcell _ _ k3
        have z0 := hfz (a * 2)
        have z1 := hfz (a * 2 + 1)
        have HC := Lib.hid (fun W hW => HP.out W l[b] (List.getElem_mem _) hW)
        have SK := Lib.hid (fun h => dl_skip (p := p) (a := a) HRL.out hlt h HTK.out HDR.out)
        have KP := Lib.hid (fun h => dl_keep (p := p) (a := a) HRL.out hab hlt h HTK.out HDR.out)
        have H1 := Lib.hid (h1 l[b])
        generalize l[b] = x at d0 d1 HC SK KP H1
        generalize hfx : f x = fx at d0 HC
        generalize hgx : g x = gx at d1 HC
        have HFX := Lib.hid hfx
        have HGX := Lib.hid hgx
        obtain ⟨e0, e1⟩ := H1.out
        rw [hfx] at e0
        rw [hgx] at e1
        have hs0 : ∀ (a : Addr) (m : Mode) (w : World), Sem.run Tryz.prog (store a fx m) w = stored Tryz.prog w a fx m := fun a m w => run_store _ _ _ _ m e0
        have hs1 : ∀ (a : Addr) (m : Mode) (w : World), Sem.run Tryz.prog (store a gx m) w = stored Tryz.prog w a gx m := fun a m w => run_store _ _ _ _ m e1
        generalize f R[a] = ox0 at *
        generalize g R[a] = ox1 at *
        clear g2 g3 k2 k3 hcell hx hfx hgx hown hR
        have KK := Lib.hid (show b + 1 ≤ l.length by omega)
        have x1 : (0 : Int) ≤ a := by omega
        have x2 : (a : Int).toNat = a := by omega
        have x3 : (0 : Int) ≤ b := by omega
        have x4 : (b : Int).toNat = b := by omega
        have x5 : (a : Int) < l.length := by omega
        have cA := chg.alloc (.cells #[fx, gx] 49)
        cases hpx : p x with
        | true =>
          have Y := Lib.hid (SK.out hpx)
          rw [hpx] at HC
          clear SK KP hpx o0 o1 z0 z1
          go_wp2_with fail
          refine (HC.out _ cA).mono ?_
          rintro e w2 ⟨rfl, b2⟩
          go_wp2_with fail
          go_roundw
          case rel => exact ⟨a, b + 1, R, rfl, by go_num, by omega, KK.out, HRL.out, Y.out.1, Y.out.2, owns_below (HO.out.alloc _) b2, cA.trans (Chg.of_below b2 _) (fun x _ h => h)⟩
          case measure => simp [intOf]; omega
        | false =>
          have Y := Lib.hid (KP.out hpx)
          rw [hpx] at HC
          clear SK KP hpx
          go_wp2_with fail
          refine (HC.out _ cA).mono ?_
          rintro e w2 ⟨rfl, b2⟩
          have O2 := owns_below (HO.out.alloc (.cells #[fx, gx] 49)) b2
          have al0 : w2.cell? ⟨wr.heap.size, 0, none⟩ = some fx := (b2.cell (p := ⟨wr.heap.size, 0, none⟩) (by simp)).trans (by simp)
          have al1 : w2.cell? ⟨wr.heap.size, 1, none⟩ = some gx := (b2.cell (p := ⟨wr.heap.size, 1, none⟩) (by simp)).trans (by simp)
          have p0 : w2.cell? ⟨g0, a * 2, none⟩ = some ox0 := (b2.cell (p := ⟨g0, a * 2, none⟩) (by simp; omega)).trans (Lib.cell?_alloc_some _ o0)
          have p1 : w2.cell? ⟨g0, a * 2 + 1, none⟩ = some ox1 := (b2.cell (p := ⟨g0, a * 2 + 1, none⟩) (by simp; omega)).trans (Lib.cell?_alloc_some _ o1)
          have q0 : w2.frozen? ⟨g0, a * 2, none⟩ = false := O2.frozenAt _
          have q1 : w2.frozen? ⟨g0, a * 2 + 1, none⟩ = false := O2.frozenAt _
          have C2 := cA.trans (Chg.of_below b2 _) (fun x _ h => h)
          have HO2 := Lib.hid O2
          clear O2 o0 o1 z0 z1 d0 d1 hfz
          go_wp2_with fail
          go_roundw
          case rel =>
            have ST := own2_store f g HO2.out a x
            rw [HFX.out, HGX.out] at ST
            exact ⟨a + 1, b + 1, R.set a x, by go_num, by go_num, by omega, KK.out, by rw [List.length_set]; exact HRL.out, Y.out.1, Y.out.2, ST, (C2.set ⟨g0, a * 2, none⟩ (.inl rfl) fx).set ⟨g0, a * 2 + 1, none⟩ (.inl rfl) gx⟩
          case measure => simp [intOf]; omega
      · have hltI : ¬ (b : Int) < l.length := by omega
        obtain rfl : b = l.length := by omega
        obtain ⟨w3, hrun, O3, G3⟩ := run_clear_own (P := Tryz.prog) (t := 22) (k := a) hown (by omega) (by decide) Tryz.underlying22 (ZV wr) rfl (by intro u hu; simp [Value.cells] at hu; rcases hu with rfl | rfl <;> rfl)
        have HTL := HTK.out
        rw [List.take_length] at HTL
        have HLEN : (l.filter fun x => !p x).length = a := by rw [← HTL, List.length_take]; omega
        have HFL := Lib.hid (show rowc f g (l.filter fun x => !p x) = (rowc f g R).take (a * 2) by rw [rowc_take, HTL])
        have HLN := Lib.hid HLEN
        clear HTL HLEN hown hfz hcell
        have x1 : (0 : Int) ≤ a := by omega
        have x2 : (a : Int).toNat = a := by omega
        have x5 : (a : Int) ≤ l.length := by omega
        have HO3 := Lib.hid O3
        have G := Lib.hid G3
        clear O3 G3 hR
        go_wp2_with fail
        go_ret
        rw [HLN.out, HFL.out]
        exact ⟨_, rfl, HO3.out, rfl, chg.trans (Chg.of_grown G.out) (fun x _ h => by subst h; rfl)⟩
end Go.Proofs.YtdpoalbbcmkceaaGreatDoor
