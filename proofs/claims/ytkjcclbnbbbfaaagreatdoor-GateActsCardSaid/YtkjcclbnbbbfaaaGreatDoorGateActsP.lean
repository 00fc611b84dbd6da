/- GateActs: what the walk carries: the package's gate and the document's, side by side. -/
import Derived.Test.YtkjcclbnbbbfaaaGreatDoorRefRdGateP
import Derived.Test.YtkjcclbnbbbfaaaGreatDoorArgGate
import Derived.Deep.DeepCutAuto
namespace Go.Proofs.YtkjcclbnbbbfaaaGreatDoor
open Go.RowKit
set_option linter.unusedVariables false

structure GTo (w0 w : World) (gb mb rb n : Nat) (m l : GM) (v : Value) : Prop where
  gt : GtAt w gb mb n m
  rg : RgAt w rb l v
  lm : w0.heap.size ≤ mb
  lr : w0.heap.size ≤ rb
  bel : Below w0.heap.size w0 w
/-- the box of an act -/
def Box (w : World) (xb : Nat) (k t : List UInt8) (n : Int) : Prop := w.heap[xb]? = some (.cells #[.string (bs k), .string (bs t), .int .i64 n] 66 (0, 0))
section
variable {w0 w w' : World} {gb mb rb n n' xb : Nat} {m m' l l' : GM} {v v' : Value} {k t : List UInt8} {x : Int}
theorem GTo.below (h : GTo w0 w gb mb rb n m l v) (hb : Below w.heap.size w w') : GTo w0 w' gb mb rb n m l v := ⟨h.gt.below hb, h.rg.below hb, h.lm, h.lr, below_trans' h.bel hb⟩
theorem GTo.pkg (h : GTo w0 w gb mb rb n m l v) (g : GtAt w' gb mb n' m') (c : Chg w w' (fun x => x = mb)) : GTo w0 w' gb mb rb n' m' l v :=
  ⟨g, h.rg.map h.gt c, h.lm, h.lr, c.below h.bel (fun x hx => by subst hx; exact h.lm)⟩
theorem GTo.doc (h : GTo w0 w gb mb rb n m l v) (r : RgAt w' rb l' v') (c : Chg w w' (fun x => x = rb)) : GTo w0 w' gb mb rb n m l' v' :=
  ⟨h.gt.ref h.rg c, r, h.lm, h.lr, c.below h.bel (fun x hx => by subst hx; exact h.lr)⟩
theorem Box.below (h : Box w xb k t x) (hb : Below w.heap.size w w') : Box w' xb k t x := (hb.block xb (lt_of_block h)).trans h
theorem Box.pkg (h : Box w xb k t x) (g : GTo w0 w gb mb rb n m l v) (c : Chg w w' (fun x => x = mb)) : Box w' xb k t x := by
  obtain ⟨D, ⟨es, clock, hb, _⟩, _⟩ := g.gt.map
  refine (c.block xb (lt_of_block h) (fun e => ?_)).trans h
  unfold Box at h
  rw [e, hb] at h; cases h
theorem Box.doc (h : Box w xb k t x) (g : GTo w0 w gb mb rb n m l v) (c : Chg w w' (fun x => x = rb)) : Box w' xb k t x := by
  refine (c.block xb (lt_of_block h) (fun e => ?_)).trans h
  have h1 := g.rg.cells
  unfold Box at h
  rw [e, h1] at h; cases h
theorem Box.cs (h : Box w xb k t x) : w.cell? ⟨xb, 0, none⟩ = some (.string (bs k)) ∧ w.cell? ⟨xb, 1, none⟩ = some (.string (bs t)) ∧ w.cell? ⟨xb, 2, none⟩ = some (.int .i64 x) := by
  unfold Box at h
  exact ⟨by simp [World.cell?, h], by simp [World.cell?, h], by simp [World.cell?, h]⟩
theorem Box.new (w : World) (k t : List UInt8) (x : Int) : Box (w.alloc (.cells #[.string (bs k), .string (bs t), .int .i64 x] 66)) w.heap.size k t x := heap_alloc_new _ _
end
theorem mayC_12 (m : GM) (k : List UInt8) : mayC m k ≤ 12 := by unfold mayC; (repeat' split) <;> omega
theorem opC_12 (m : GM) (k : List UInt8) : opC' m k ≤ 12 := by
  have := mayC_12 m k
  unfold opC'; (repeat' split) <;> omega
theorem adC_12 (m : GM) (k : List UInt8) (x : Int) : adC m k x ≤ 12 := by unfold adC; (repeat' split) <;> omega
theorem opM_perm {m l : GM} (h : m.Perm l) (hw : GWF l) (k : List UInt8) : (opM m k).Perm (opG l k) := by
  obtain ⟨e1, _⟩ := opC_perm h hw.srt.nodup k
  unfold opM Go.Proofs.YtkjcclbnbbbfaaaGreatDoor.opG
  rw [e1]
  split
  · rw [glk_perm h hw.srt.nodup]; exact set_perm h hw.srt _ _
  · exact h
theorem stM_perm {m l : GM} (h : m.Perm l) (hw : GWF l) (k : List UInt8) (x : Int) : (stM m k x).Perm (stG l k x) := by
  obtain ⟨e1, e2, _⟩ := stC_perm h hw.srt.nodup k x
  unfold stM Go.Proofs.YtkjcclbnbbbfaaaGreatDoor.stG
  rw [e1, e2]
  split
  · exact set_perm h hw.srt _ _
  · exact h
/-- each deed, by the package and by the document, in the document's words -/
def Doing (E : Nat → Addr) (w0 w : World) (gb mb rb : Nat) (xb : Nat) (k t : List UInt8) (x : Int) (n : Nat) (m l : GM) : Prop := (∃ v, GTo w0 w gb mb rb n m l v) ∧ Box w xb k t x
section
variable {E : Nat → Addr} {w0 w : World} {gb mb rb n xb : Nat} {m l : GM} {v : Value} {k t : List UInt8} {x : Int}
attribute [local irreducible] opC' opN opM opG adC stC stM stG glk
theorem p_open (h : GTo w0 w gb mb rb n m l v) (hb : Box w xb k t x) (hp : m.Perm l) (hw : GWF l) (hE : GEnv E w0) (ht : t.length ≤ 1000) (hn : n < 1000000000) :
    Calls Tryz.prog 24 #[.pointer (some ⟨gb, 0, none⟩), .string (bs t)] w fun e w' => e = .returned (.tuple #[.int .i64 (opN l t : Nat), ev E (opC' l t)]) ∧ GTo w0 w' gb mb rb (n + 1) (opM m t) l v ∧ Box w' xb k t x := by
  obtain ⟨e1, e2⟩ := opC_perm hp hw.srt.nodup t
  have hE' := hE.below h.bel
  have := gopen_any (E := E) t h.gt (by omega) hn (hE'.has 2 (by omega) (by omega)) (hE'.has 5 (by omega) (by omega)) (hE'.has 8 (by omega) (by omega))
  rw [e1, e2] at this
  exact this.mono fun e w' ⟨he, hg, hc⟩ => ⟨he, h.pkg hg hc, hb.pkg h hc⟩
theorem d_open (h : GTo w0 w gb mb rb n m l v) (hb : Box w xb k t x) (hw : GWF l) (ht : t.length ≤ 1000) :
    Calls Tryz.prog 29 #[.pointer (some ⟨rb, 0, none⟩), .string (bs t)] w fun e w' => e = .returned (.tuple #[.int .i64 (opN l t : Nat), .int .i64 (opC' l t : Nat)]) ∧ (∃ v', GTo w0 w' gb mb rb n m (opG l t) v') ∧ Box w' xb k t x :=
  (rgopen_any t h.rg hw (by omega)).mono fun e w' ⟨he, ⟨v', hr⟩, hc⟩ => ⟨he, ⟨v', h.doc hr hc⟩, hb.doc h hc⟩
theorem p_set (h : GTo w0 w gb mb rb n m l v) (hb : Box w xb k t x) (hp : m.Perm l) (hw : GWF l) (hE : GEnv E w0) (ht : t.length ≤ 1000) (hn : n < 1000000000) :
    Calls Tryz.prog 31 #[.pointer (some ⟨gb, 0, none⟩), .string (bs t), .int .i64 x] w fun e w' => e = .returned (ev E (stC l t x)) ∧ GTo w0 w' gb mb rb (n + 1) (stM m t x) l v ∧ Box w' xb k t x := by
  obtain ⟨e1, e2, e3⟩ := stC_perm hp hw.srt.nodup t x
  have hE' := hE.below h.bel
  have := gset_any (E := E) t x h.gt (by omega) hn (by rw [glk_perm hp hw.srt.nodup]; exact hw.glk_le t) (hE'.has 2 (by omega) (by omega)) (hE'.has 5 (by omega) (by omega)) (hE'.has 8 (by omega) (by omega))
  rw [e1] at this
  exact this.mono fun e w' ⟨he, hg, hc⟩ => ⟨he, h.pkg hg hc, hb.pkg h hc⟩
theorem d_set (h : GTo w0 w gb mb rb n m l v) (hb : Box w xb k t x) (hw : GWF l) (ht : t.length ≤ 1000) :
    Calls Tryz.prog 32 #[.pointer (some ⟨rb, 0, none⟩), .string (bs t), .int .i64 x] w fun e w' => e = .returned (.int .i64 (stC l t x : Nat)) ∧ (∃ v', GTo w0 w' gb mb rb n m (stG l t x) v') ∧ Box w' xb k t x :=
  (rgsets_any t x h.rg hw (by omega)).mono fun e w' ⟨he, ⟨v', hr⟩, hc⟩ => ⟨he, ⟨v', h.doc hr hc⟩, hb.doc h hc⟩
theorem p_admit (h : GTo w0 w gb mb rb n m l v) (hp : m.Perm l) (hw : GWF l) (hE : GEnv E w0) (ht : t.length ≤ 1000) :
    Calls Tryz.prog 25 #[.pointer (some ⟨gb, 0, none⟩), .string (bs t), .int .i64 x] w fun e w' => e = .returned (ev E (adC l t x)) ∧ w = w' := by
  obtain ⟨e1, e2, e3⟩ := stC_perm hp hw.srt.nodup t x
  have hE' := hE.below h.bel
  have := gadmit_any (E := E) t x h.gt (by omega) (hE'.has 6 (by omega) (by omega)) (hE'.has 11 (by omega) (by omega))
  rw [e3] at this
  exact this
theorem d_admit (h : GTo w0 w gb mb rb n m l v) (hw : GWF l) :
    Calls Tryz.prog 30 #[.pointer (some ⟨rb, 0, none⟩), .string (bs t), .int .i64 x] w fun e w' => e = .returned (.int .i64 (adC l t x : Nat)) ∧ w = w' := rgadmit_any t x h.rg (by have := hw.few; omega)
theorem p_last (h : GTo w0 w gb mb rb n m l v) (hp : m.Perm l) (hw : GWF l) (ht : t.length ≤ 1000) :
    Calls Tryz.prog 23 #[.pointer (some ⟨gb, 0, none⟩), .string (bs t)] w fun e w' => e = .returned (.int .i64 (glk l t : Nat)) ∧ w' = w := by
  have := glast_any t h.gt (by omega)
  rw [glk_perm hp hw.srt.nodup] at this
  exact this.mono fun e w' ⟨a, b⟩ => ⟨a, b.symm⟩
theorem d_last (h : GTo w0 w gb mb rb n m l v) (hw : GWF l) :
    Calls Tryz.prog 33 #[.pointer (some ⟨rb, 0, none⟩), .string (bs t)] w fun e w' => e = .returned (.int .i64 (glk l t : Nat)) ∧ w' = w :=
  (rglast_any t h.rg (by have := hw.few; omega)).mono fun e w' ⟨a, b⟩ => ⟨a, b.symm⟩
end
end Go.Proofs.YtkjcclbnbbbfaaaGreatDoor
/- GateActs: any acts on a gate; any text. The text written by program (gen_gateacts.py). -/
namespace Go.Proofs.YtkjcclbnbbbfaaaGreatDoor
open Go.RowKit
set_option linter.unusedVariables false
attribute [local irreducible] opC' opN opM opG adC stC stM stG glk gtext readG readD

theorem quiet_ofG {P : Program} {f : FuncId} {args : Array Value} {w : World} {n : Nat} {v : Value}
    (h : Calls P f args (w.drewN n) fun e w' => e = .returned v ∧ w' = w.drewN n) : Calls P f args (w.drewN n) fun e w'' => e = .returned v ∧ ∃ m, w'' = w.drewN m :=
  h.mono fun _ _ ⟨he, hm⟩ => ⟨he, n, hm⟩
theorem nsame (z : Nat) : (((z : Nat) : Int) != ((z : Nat) : Int)) = false := by simp
set_option maxRecDepth 100000 in
set_option maxHeartbeats 51200000 in
theorem gateActs_walk (E : Nat → Addr) (s0 : Option Addr) (n0 c0 : Nat) (a0 : List PGa) (a1 : ByteArray) (w : World) (hA : SliceIs w (.slice s0 n0 c0) PGa.cells (a0.flatMap PGa.vals) ∧ ∀ x ∈ a0, x.ok) (hq : a1.size ≤ maxLen) (hD : Hand w) (hT : TabW w) (hM : MaxW w) (hH : ∀ c ∈ [1, 2, 3, 4, 5, 6, 7, 8, 9, 10, 11, 12, 14, 13], Has E w c ∧ Sent w (E c)) (hN : ∀ c ∈ [1, 2, 3, 4, 5, 6, 7, 8, 9, 10, 11, 12, 14, 13], ∀ c' ∈ [1, 2, 3, 4, 5, 6, 7, 8, 9, 10, 11, 12, 14, 13], c ≠ c' → E c ≠ E c') :
    Calls Tryz.prog 6 #[.slice s0 n0 c0, .string a1] w fun e w' => e = .returned (.bool true) ∧ Below w.heap.size w w' := by
  have hE : GEnv E w := ⟨⟨hT, hM, (hH 13 (by simp)).1, (hH 14 (by simp)).1⟩, Errs.of hD (fun c hc => hH c (by simp at hc ⊢; omega)) (fun c hc c' hc' => hN c (by simp at hc ⊢; omega) c' (by simp at hc' ⊢; omega))⟩
  have HE := Lib.hid hE
  have GD := Lib.hid (gated_ok E w hE)
  obtain ⟨hsl, hok⟩ := hA
  have HSL := Lib.hid hsl
  have HOK := Lib.hid hok
  obtain ⟨s', n', c', e, hn, g1, g2, _⟩ := hsl.get
  cases e
  rw [flat_len PGa.vals 3 PGa.vals_len, show PGa.cells = 3 from rfl] at hn
  have hn' : a0.length = n0 := by omega
  subst hn'
  unfold maxLen at g2 hq
  obtain ⟨b, rfl⟩ : ∃ b, a1 = bs b := ⟨a1.data.toList, (bs_of a1).symm⟩
  rw [bs_size] at hq
  have hbz : (bs b).size = b.length := bs_size b
  clear hT hM hH hN hD hE hsl hok hn
  go_enter Tryz.func6, Tryz.ntmps6
  go_wp2_with fail
  refine GD.out.mono ?_
  rintro e wA ⟨rfl, bA⟩
  clear GD
  by_cases hq1 : a0.length ≤ 60
  · have hq1I : ¬ (60 : Int) < a0.length := by omega
    by_cases hq2 : b.length ≤ 600
    · have hq2I : ¬ (600 : Int) < b.length := by omega
      go_wp2_with fail
      refine (gnew_any _).mono ?_
      rintro e wB ⟨gb, mb, rfl, gB, bB, loA, loB⟩
      have START : Hid (GTo w (wB.alloc (.cells #[.slice none 0 0] 64)) gb mb wB.heap.size 0 [] [] (.slice none 0 0)) := Lib.hid
        ⟨gB.below (wb_alloc wB _), RgAt.new, Nat.le_trans bA.size loB, Nat.le_trans bA.size bB.size, below_trans' (below_trans' bA bB) (wb_alloc wB _)⟩
      clear gB bB bA loA loB
      generalize hrb : wB.heap.size = rb at *
      go_wp2_with fail
      go_loopw [8, 9, 10, 11, 12, 13] (fun i _ _ _ _ _ wr => ∃ (j n : Nat) (m l : GM) (v : Value), i = .int .i64 j ∧ j ≤ a0.length ∧ n ≤ j ∧ m.Perm l ∧ GWF l ∧ GTo w wr gb mb rb n m l v) (fun i _ _ _ _ _ _ => a0.length - (intOf i).toNat)
      case atStart => exact ⟨0, 0, [], [], _, rfl, by omega, by omega, List.Perm.refl _, GWF.nil, START.out⟩
      case round =>
        clear START
        obtain ⟨j, n, m, l, v, rfl, hj, hnj, hp, hwf, hs⟩ := hrel
        have HS := Lib.hid hs
        have HP := Lib.hid hp
        have HWF := Lib.hid hwf
        clear hs hp hwf
        by_cases hlt : j < a0.length
        · have hltI : (j : Int) < a0.length := by omega
          have xok := HOK.out (a0[j]'hlt) (List.getElem_mem hlt)
          have hgk := flat_get PGa.vals 3 PGa.vals_len a0 j
          obtain ⟨sA, nA, cA, eA, _, _, _, gA⟩ := (HSL.out.below HS.out.bel).get
          cases eA
          obtain ⟨ad, rfl, d0⟩ := gA (j * 3) _ (by have := hgk 0 hlt (by omega); simp only [Nat.add_zero] at this; rw [this]; rfl)
          obtain ⟨_, eA, d1⟩ := gA (j * 3 + (0 + 1)) _ (by rw [hgk 1 hlt (by omega)]; rfl)
          cases eA
          obtain ⟨_, eA, d2⟩ := gA (j * 3 + (1 + 1)) _ (by rw [hgk 2 hlt (by omega)]; rfl)
          cases eA
          clear gA hgk
          have x1 : (0 : Int) ≤ j := by omega
          have x2 : (j : Int).toNat = j := by omega
          have KK := Lib.hid (show j + 1 ≤ a0.length ∧ n + 1 ≤ j + 1 ∧ n ≤ j + 1 ∧ n ≤ 1000 by omega)
          generalize hX : a0[j]'hlt = X at *
          obtain ⟨kd, sd, nd⟩ := X
          simp only at d0 d1 d2
          obtain ⟨ok1, ok2, ok3⟩ := xok
          simp only at ok1 ok2 ok3
          have d1 := cell_at d1
          have d2 := cell_at d2
          have hsz : (bs sd).size = sd.length := bs_size sd
          have HOK3 := Lib.hid ok3
          have HXN := Lib.hid (Box.new wr kd sd nd)
          have HXB := Lib.hid (wb_alloc wr (.cells #[.string (bs kd), .string (bs sd), .int .i64 nd] 66))
          have HWX := Lib.hid (HS.out.below HXB.out)
          clear hX ok3 hnj
          by_cases hS : sd.length ≤ 30
          · have hSI : ¬ (30 : Int) < sd.length := by omega
            by_cases hP : ((bs kd).toList == [111, 112, 101, 110]) = true
            · as_aux_lemma =>
                go_wp2_with fail
                generalize hwx : wr.alloc (.cells #[.string (bs kd), .string (bs sd), .int .i64 nd] 66) = wx at *
                generalize hxb : wr.heap.size = xb at *
                clear hwx hxb HXB
                refine (p_open HWX.out HXN.out HP.out HWF.out HE.out (by omega) (by have := KK.out; omega)).mono ?_
                rintro e w5 ⟨rfl, g5, x5⟩
                obtain ⟨t0, t1, t2⟩ := x5.cs
                have DO := Lib.hid (d_open g5 x5 HWF.out (by omega))
                have HP2 := Lib.hid (opM_perm HP.out HWF.out sd)
                have HW2 := Lib.hid (HWF.out.opG sd)
                have hC := opC_12 l sd
                clear g5 x5 HS HWX HXN t0 t2
                generalize opM m sd = m2 at *
                generalize opG l sd = l2 at *
                generalize opN l sd = y at *
                generalize opC' l sd = C at *
                have hyy := nsame y
                go_wp2_with fail
                refine DO.out.mono ?_
                rintro e w6 ⟨rfl, ⟨v6, g6⟩, x6⟩
                have CE := Lib.hid (coded_ev E C w6 (HE.out.below g6.bel).err hC)
                have G6 := Lib.hid g6
                have X6 := Lib.hid x6
                clear g6 x6 DO t1
                go_wp2_with fail
                refine CE.out.mono ?_
                rintro e w7 ⟨rfl, b7⟩
                have HZ := Lib.hid (G6.out.below b7)
                have BX := Lib.hid (X6.out.below b7)
                clear b7 G6 X6 CE
                obtain ⟨t0, t1, t2⟩ := BX.out.cs
                have PL0 := Lib.hid (p_last (t := sd) HZ.out HP2.out HW2.out (by omega))
                have DL0 := Lib.hid (d_last (t := sd) HZ.out HW2.out)
                have PLD := Lib.hid (fun n => p_last (t := sd) (HZ.out.below (Drew.below (Drew.drewN w7 n) _)) HP2.out HW2.out (by omega))
                have DLD := Lib.hid (fun n => d_last (t := sd) (HZ.out.below (Drew.below (Drew.drewN w7 n) _)) HW2.out)
                have hzz := nsame (glk l2 sd)
                generalize glk l2 sd = z at *
                clear t0 t2
                go_wp2_with fail
                go_quiet ((first | (go_at_call 23; first | exact Calls.quiet_of_same PL0.out | exact Calls.quiet_of_same (PLD.out _) | exact quiet_ofG (PLD.out _)) | (go_at_call 33; first | exact Calls.quiet_of_same DL0.out | exact Calls.quiet_of_same (DLD.out _) | exact quiet_ofG (DLD.out _))))
                rename_i nq
                have HZ9 := Lib.hid (HZ.out.below (Drew.below (Drew.drewN w7 nq) _))
                clear PL0 DL0 PLD DLD HZ t1 BX
                go_wp2_with fail
                go_roundw
                case rel => exact ⟨j + 1, n + 1, m2, l2, _, by go_num, KK.out.1, KK.out.2.1, HP2.out, HW2.out, HZ9.out⟩
                case measure => simp [intOf]; omega
            · have hP := Bool.eq_false_iff.2 hP
              by_cases hA : ((bs kd).toList == [97, 100, 109, 105, 116]) = true
              · as_aux_lemma =>
                  go_upto_region 23 with fail
                  generalize hwx : wr.alloc (.cells #[.string (bs kd), .string (bs sd), .int .i64 nd] 66) = wx at *
                  generalize hxb : wr.heap.size = xb at *
                  clear hwx hxb HXB
                  have BR := Below.refl wx.heap.size wx
                  have DD := Lib.hid (fun (X : World) (h : Box X xb kd sd nd) => show X.cell? ⟨xb, 1, none⟩ = some (.string (bs sd)) ∧ X.cell? ⟨xb, 2, none⟩ = some (.int .i64 nd) from ⟨h.cs.2.1, h.cs.2.2⟩)
                  have S0 := DD.out wx HXN.out
                  have S1 := DD.out _ (HXN.out.below (Below.drew BR))
                  have PA := Lib.hid (fun (W : World) (b : Below wx.heap.size wx W) => p_admit (x := nd) (HWX.out.below b) HP.out HWF.out HE.out (show sd.length ≤ 1000 by omega))
                  have DA := Lib.hid (fun (W : World) (b : Below wx.heap.size wx W) => d_admit (t := sd) (x := nd) (HWX.out.below b) HWF.out)
                  have CE := Lib.hid (fun (W : World) (b : Below wx.heap.size wx W) => coded_ev E (adC l sd nd) W ((HE.out.below HWX.out.bel).below b).err (adC_12 l sd nd))
                  have BX0 := Lib.hid (fun (W : World) (b : Below wx.heap.size wx W) => And.intro (HWX.out.below b) (HXN.out.below b))
                  generalize adC l sd nd = C at *
                  clear HS
                  go_region_held3 (fun X => X.cell? ⟨xb, 1, none⟩ = some (.string (bs sd)) ∧ X.cell? ⟨xb, 2, none⟩ = some (.int .i64 nd)) (first | assumption | exact S0)
                    (first
                    | (go_at_call 25; refine (PA.out _ (by first | exact BR | exact Below.drew BR)).mono ?_; rintro e w5 ⟨rfl, rfl⟩)
                    | (go_at_call 30; refine (DA.out _ (by first | exact BR | exact Below.drew BR)).mono ?_; rintro e w6 ⟨rfl, rfl⟩)
                    | (go_at_call 26; refine (CE.out _ (by first | exact BR | exact Below.drew BR)).mono ?_; rintro e w7 ⟨rfl, b7⟩; have B7 := below_trans' (Below.drew BR) b7; have S7 := DD.out _ (BX0.out _ B7).2; have HB7 := Lib.hid B7; clear B7 b7))
                  obtain ⟨hz7, bx7⟩ := BX0.out _ HB7.out
                  have HZ := Lib.hid hz7
                  have BX := Lib.hid bx7
                  have HP2 := HP
                  have HW2 := HWF
                  clear hz7 bx7 S0 S1 S7 DD PA DA CE BX0 HB7
                  obtain ⟨t0, t1, t2⟩ := BX.out.cs
                  have PL0 := Lib.hid (p_last (t := sd) HZ.out HP2.out HW2.out (by omega))
                  have DL0 := Lib.hid (d_last (t := sd) HZ.out HW2.out)
                  have PLD := Lib.hid (fun n => p_last (t := sd) (HZ.out.below (Drew.below (Drew.drewN w7 n) _)) HP2.out HW2.out (by omega))
                  have DLD := Lib.hid (fun n => d_last (t := sd) (HZ.out.below (Drew.below (Drew.drewN w7 n) _)) HW2.out)
                  have hzz := nsame (glk l sd)
                  generalize glk l sd = z at *
                  clear t0 t2
                  go_wp2_with fail
                  go_quiet ((first | (go_at_call 23; first | exact Calls.quiet_of_same PL0.out | exact Calls.quiet_of_same (PLD.out _) | exact quiet_ofG (PLD.out _)) | (go_at_call 33; first | exact Calls.quiet_of_same DL0.out | exact Calls.quiet_of_same (DLD.out _) | exact quiet_ofG (DLD.out _))))
                  rename_i nq
                  have HZ9 := Lib.hid (HZ.out.below (Drew.below (Drew.drewN w7 nq) _))
                  clear PL0 DL0 PLD DLD HZ t1 BX
                  go_wp2_with fail
                  go_roundw
                  case rel => exact ⟨j + 1, n, m, l, _, by go_num, KK.out.1, KK.out.2.2.1, HP2.out, HW2.out, HZ9.out⟩
                  case measure => simp [intOf]; omega
              · have hA := Bool.eq_false_iff.2 hA
                as_aux_lemma =>
                  go_upto_region 15 with fail
                  generalize hwx : wr.alloc (.cells #[.string (bs kd), .string (bs sd), .int .i64 nd] 66) = wx at *
                  generalize hxb : wr.heap.size = xb at *
                  clear hwx hxb HXB
                  have BR := Below.refl wx.heap.size wx
                  have DD := Lib.hid (fun (X : World) (h : Box X xb kd sd nd) => show X.cell? ⟨xb, 1, none⟩ = some (.string (bs sd)) ∧ X.cell? ⟨xb, 2, none⟩ = some (.int .i64 nd) from ⟨h.cs.2.1, h.cs.2.2⟩)
                  have S0 := DD.out wx HXN.out
                  have S1 := DD.out _ (HXN.out.below (Below.drew BR))
                  have HP2 := Lib.hid (stM_perm HP.out HWF.out sd nd)
                  have HW2 := Lib.hid (HWF.out.stG sd nd)
                  have PA := Lib.hid (fun (W : World) (b : Below wx.heap.size wx W) => p_set (HWX.out.below b) (HXN.out.below b) HP.out HWF.out HE.out (show sd.length ≤ 1000 by omega) (show n < 1000000000 by have := KK.out; omega))
                  have DA := Lib.hid (fun (W : World) (v' : Value) (g : GTo w W gb mb rb (n + 1) (stM m sd nd) l v') (h : Box W xb kd sd nd) => d_set g h HWF.out (show sd.length ≤ 1000 by omega))
                  have CE := Lib.hid (fun (W : World) (h : GEnv E W) => coded_ev E (stC l sd nd) W h.err (stC_le l sd nd))
                  generalize stM m sd nd = m2 at *
                  generalize stG l sd nd = l2 at *
                  generalize stC l sd nd = C at *
                  clear HS
                  go_region_held3 (fun X => X.cell? ⟨xb, 1, none⟩ = some (.string (bs sd)) ∧ X.cell? ⟨xb, 2, none⟩ = some (.int .i64 nd)) (first | assumption | exact S0)
                    (first
                    | (go_at_call 31; refine (PA.out _ (by first | exact BR | exact Below.drew BR)).mono ?_; rintro e w5 ⟨rfl, g5, x5⟩; have S5 := DD.out _ x5; have G5 := Lib.hid g5; have X5 := Lib.hid x5; clear g5 x5)
                    | (go_at_call 32; refine (DA.out _ _ G5.out X5.out).mono ?_; rintro e w6 ⟨rfl, ⟨v6, g6⟩, x6⟩; have S6 := DD.out _ x6; have G6 := Lib.hid g6; have X6 := Lib.hid x6; clear g6 x6)
                    | (go_at_call 26; refine (CE.out _ (HE.out.below G6.out.bel)).mono ?_; rintro e w7 ⟨rfl, b7⟩; have S7 := DD.out _ (X6.out.below b7); have HZ := Lib.hid (G6.out.below b7); have BX := Lib.hid (X6.out.below b7); clear b7))
                  clear S0 S1 S5 S6 S7 DD PA DA CE G5 X5 G6 X6
                  obtain ⟨t0, t1, t2⟩ := BX.out.cs
                  have PL0 := Lib.hid (p_last (t := sd) HZ.out HP2.out HW2.out (by omega))
                  have DL0 := Lib.hid (d_last (t := sd) HZ.out HW2.out)
                  have PLD := Lib.hid (fun n => p_last (t := sd) (HZ.out.below (Drew.below (Drew.drewN w7 n) _)) HP2.out HW2.out (by omega))
                  have DLD := Lib.hid (fun n => d_last (t := sd) (HZ.out.below (Drew.below (Drew.drewN w7 n) _)) HW2.out)
                  have hzz := nsame (glk l2 sd)
                  generalize glk l2 sd = z at *
                  clear t0 t2
                  go_wp2_with fail
                  go_quiet ((first | (go_at_call 23; first | exact Calls.quiet_of_same PL0.out | exact Calls.quiet_of_same (PLD.out _) | exact quiet_ofG (PLD.out _)) | (go_at_call 33; first | exact Calls.quiet_of_same DL0.out | exact Calls.quiet_of_same (DLD.out _) | exact quiet_ofG (DLD.out _))))
                  rename_i nq
                  have HZ9 := Lib.hid (HZ.out.below (Drew.below (Drew.drewN w7 nq) _))
                  clear PL0 DL0 PLD DLD HZ t1 BX
                  go_wp2_with fail
                  go_roundw
                  case rel => exact ⟨j + 1, n + 1, m2, l2, _, by go_num, KK.out.1, KK.out.2.1, HP2.out, HW2.out, HZ9.out⟩
                  case measure => simp [intOf]; omega
          · have hSI : (30 : Int) < sd.length := by omega
            go_wp2_with fail
            go_ret
            exact ⟨rfl, HWX.out.bel⟩
        · have hltI : ¬ (j : Int) < a0.length := by omega
          as_aux_lemma =>
            have TX := Lib.hid (gtext_any E gb mb _ _ _ wr HS.out.gt (HE.out.below HS.out.bel).lib HP.out HWF.out)
            have HG := HS.out
            have TD := Lib.hid (fun (W : World) (b : Below wr.heap.size wr W) => rgtext_any (HG.rg.below b) HWF.out)
            clear HG
            go_wp2_with fail
            refine TX.out.mono ?_
            rintro e w3 ⟨rfl, b3⟩
            go_wp2_with fail
            refine (TD.out _ b3).mono ?_
            rintro e w4 ⟨rfl, b4⟩
            have B4 := Lib.hid (below_trans' HS.out.bel (below_trans' b3 b4))
            clear b3 b4 TX TD HS
            obtain ⟨q1, q2, q3⟩ := readG_D b
            have q4 := (rdg_code (b.length + 1) 0 [] [] b).1
            have hq4 : (readG b).2.1 ≤ 12 := by unfold readG; exact q4
            have E4 := HE.out.below B4.out
            have RP := gread_any E b w4 E4.lib (by omega) (E4.has 1 (by omega) (by omega)) (E4.has 2 (by omega) (by omega)) (E4.has 5 (by omega) (by omega)) (E4.has 8 (by omega) (by omega)) (E4.has 9 (by omega) (by omega))
            have RR := Lib.hid (fun (W : World) => rreadgate_any b W (by omega))
            rw [q1] at RP hq4
            have HRP := Lib.hid RP
            have HQ2 := Lib.hid q2
            have HQ3 := Lib.hid q3
            clear RP E4 q1 q2 q3 q4
            generalize readG b = A at *
            generalize readD b = R at *
            obtain ⟨rl, rc, ra⟩ := R
            obtain ⟨al, ac⟩ := A
            simp only [rfv_is] at RR HRP hq4 HQ2 HQ3
            go_wp2_with fail
            refine HRP.out.mono ?_
            rintro e w5 ⟨pv, ve, rfl, fe, yes, no, b5⟩
            have FE := Lib.hid fe
            have YES := Lib.hid yes
            have NO := Lib.hid no
            have B5 := Lib.hid b5
            clear fe yes no b5 HRP
            go_wp2_with fail
            refine (RR.out _).mono ?_
            rintro e w6 ⟨pd, rfl, yesd, nod, b6⟩
            have B56 := Lib.hid (below_trans' B5.out b6)
            have B6 := Lib.hid (below_trans' B4.out B56.out)
            have YD := Lib.hid yesd
            have HB6 := Lib.hid b6
            clear yesd nod b6 RR
            by_cases hrc : rc = 0
            · subst hrc
              obtain ⟨hgb, hmb, nn, rfl, g5, _, _, _⟩ := YES.out rfl
              obtain ⟨rb2, vd, rfl, r6, _⟩ := YD.out rfl
              obtain rfl := FE.out.zero
              have TP := Lib.hid (fun (W : World) (b : Below w6.heap.size w6 W) => gtext_any E hgb hmb nn _ _ W ((g5.below HB6.out).below b) ((HE.out.below B6.out).below b).lib HQ2.out HQ3.out)
              have TQ := Lib.hid (fun (W : World) (b : Below w6.heap.size w6 W) => rgtext_any (r6.below b) HQ3.out)
              have BA6 := Lib.hid (wb_alloc w6 (.cells #[.int .i64 0, .int .i64 ra] 42))
              clear YES NO YD FE g5 r6
              go_wp2_with fail
              refine (TP.out _ BA6.out).mono ?_
              rintro e w7 ⟨rfl, b7⟩
              have B67 := Lib.hid (below_trans' BA6.out b7)
              clear b7 TP
              go_wp2_with fail
              refine (TQ.out _ B67.out).mono ?_
              rintro e w8 ⟨rfl, b8⟩
              have B8 := Lib.hid (below_trans' B6.out (below_trans' B67.out b8))
              clear b8 TQ
              go_wp2_with fail
              go_ret
              exact ⟨rfl, B8.out⟩
            · have hrI : (0 : Int) < rc := by omega
              obtain rfl := NO.out hrc
              have FY := Lib.hid (fun (W : World) (b : Below w6.heap.size w6 W) => faulted_yes E ve rc ra W (FE.out.below (below_trans' HB6.out b)) ((HE.out.below B6.out).below b).err hq4)
              have BA6 := Lib.hid (wb_alloc w6 (.cells #[.int .i64 rc, .int .i64 ra] 42))
              clear YES NO YD FE hrc
              go_wp2_with fail
              refine (FY.out _ BA6.out).mono ?_
              rintro e w7 ⟨rfl, b7⟩
              have B7 := Lib.hid (below_trans' B6.out (below_trans' BA6.out b7))
              clear b7 FY
              go_wp2_with fail
              go_ret
              exact ⟨rfl, B7.out⟩
    · have hq2I : (600 : Int) < b.length := by omega
      go_wp2_with fail
      go_ret
      exact ⟨rfl, bA⟩
  · have hq1I : (60 : Int) < a0.length := by omega
    go_wp2_with fail
    go_ret
    exact ⟨rfl, bA⟩
end Go.Proofs.YtkjcclbnbbbfaaaGreatDoor
