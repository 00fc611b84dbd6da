/- TapeActs: any acts on a tape of any bytes. The text written by program (gen_tapeacts.py). -/
import Derived.Test.YtomaojpldinmgaaDoorTapeActsP
import Derived.Deep.DeepCutAuto
namespace Go.Proofs.YtomaojpldinmgaaDoor
open Go.RowKit
set_option linter.unusedVariables false
attribute [local irreducible] recL readL apC apT ctC ctT onT rcT

theorem quiet_of {P : Program} {f : FuncId} {args : Array Value} {w : World} {n : Nat} {v : Value}
    (h : Calls P f args (w.drewN n) fun e w' => e = .returned v ∧ w' = w.drewN n) : Calls P f args (w.drewN n) fun e w'' => e = .returned v ∧ ∃ m, w'' = w.drewN m :=
  h.mono fun _ _ ⟨he, hm⟩ => ⟨he, n, hm⟩
set_option maxRecDepth 100000 in
set_option maxHeartbeats 51200000 in
theorem tapeActs_walk (E : Nat → Addr) (a0 : ByteArray) (s1 : Option Addr) (n1 c1 : Nat) (a1 : List PWr) (w : World) (h0 : a0.size ≤ maxLen) (hA : SliceIs w (.slice s1 n1 c1) PWr.cells (a1.flatMap PWr.vals) ∧ ∀ x ∈ a1, x.ok) (hh : Hand w) (hT : TabW w) (hM : MaxW w) (h1 : ∀ c ∈ [1, 2, 3, 4, 5, 6, 7, 8, 9, 10, 11, 12, 14, 13], Has E w c ∧ Sent w (E c)) (h2 : ∀ c ∈ [1, 2, 3, 4, 5, 6, 7, 8, 9, 10, 11, 12, 14, 13], ∀ c' ∈ [1, 2, 3, 4, 5, 6, 7, 8, 9, 10, 11, 12, 14, 13], c ≠ c' → E c ≠ E c') :
    Calls Tryd.prog 3 #[.string a0, .slice s1 n1 c1] w fun e w' => e = .returned (.bool true) ∧ Below w.heap.size w w' := by
  have hsub : ∀ c ∈ [1, 2, 3, 4, 5, 6, 7, 8, 9, 10, 11, 12], c ∈ [1, 2, 3, 4, 5, 6, 7, 8, 9, 10, 11, 12, 14, 13] := by simp
  have hErr := Errs.of hh (fun c hc => h1 c (hsub c hc)) (fun c hc c' hc' => h2 c (hsub c hc) c' (hsub c' hc'))
  have HERR := Lib.hid hErr
  have hE : TEnv E w := ⟨⟨hT, hM, (h1 13 (by simp)).1, (h1 14 (by simp)).1⟩, (h1 2 (by simp)).1, (h1 8 (by simp)).1, (h1 12 (by simp)).1⟩
  have HE := Lib.hid hE
  have TD0 := Lib.hid (taped_ok E w hE)
  obtain ⟨hsl, hok⟩ := hA
  have HSL := Lib.hid hsl
  have HOK := Lib.hid hok
  obtain ⟨s', n', c', e, hn, g1, g2, _⟩ := hsl.get
  cases e
  rw [flat_len PWr.vals 3 PWr.vals_len, show PWr.cells = 3 from rfl] at hn
  have hn' : a1.length = n1 := by omega
  subst hn'
  unfold maxLen at g2 h0
  obtain ⟨b, rfl⟩ : ∃ b, a0 = bs b := ⟨a0.data.toList, (bs_of a0).symm⟩
  rw [bs_size] at h0
  have hbz : (bs b).size = b.length := bs_size b
  clear h1 h2 hh hT hM hE hErr hsl hok hn hsub
  go_enter Tryd.func3, Tryd.ntmps3
  go_wp2_with fail
  refine TD0.out.mono ?_
  rintro e wA ⟨rfl, bA⟩
  clear TD0
  by_cases hq1 : b.length ≤ 2000
  · have hq1I : ¬ (2000 : Int) < b.length := by omega
    by_cases hq2 : a1.length ≤ 50
    · have hq2I : ¬ (50 : Int) < a1.length := by omega
      have ND := Lib.hid (tnew_s (w0 := w) (w := wA) (bs b) bA (by rw [bs_size]; omega))
      rw [bs_list] at ND
      clear bA
      go_wp2_with fail
      refine ND.out.mono ?_
      rintro e wB ⟨db, rfl, ⟨F2, tB, _⟩, _⟩
      have START : Hid (∃ F, TpD w (wB.alloc (.cells #[.string (bs b), .bool false, .int .i64 (-1)] 31)) F db wB.heap.size ⟨b, false, -1⟩) := Lib.hid
        ⟨F2, tB.below (wb_alloc wB _), ⟨heap_alloc_new wB _, by simp⟩, fun hf => by have := (tB.lo _ hf).2; omega, tB.bel.size, by simp only; omega⟩
      clear tB ND
      generalize hmt : wB.heap.size = mt at *
      go_wp2_with fail
      go_loopw [9, 10, 11, 12, 13] (fun i _ _ _ _ wr => ∃ (k : Nat) (d : TP) (F : Nat → Prop), i = .int .i64 k ∧ k ≤ a1.length ∧ TpD w wr F db mt d) (fun i _ _ _ _ _ => a1.length - (intOf i).toNat)
      case atStart =>
        obtain ⟨F, hs⟩ := START.out
        exact ⟨0, _, F, rfl, by omega, hs⟩
      case round =>
        obtain ⟨k, d, F, rfl, hk, hs⟩ := hrel
        have HS := Lib.hid hs
        have HL := Lib.hid hs.len
        clear hs START
        by_cases hlt : k < a1.length
        · have hltI : (k : Int) < a1.length := by omega
          have xok := HOK.out (a1[k]'hlt) (List.getElem_mem hlt)
          have hgk := flat_get PWr.vals 3 PWr.vals_len a1 k
          obtain ⟨sA, nA, cA, eA, _, _, _, gA⟩ := (HSL.out.below HS.out.tp.bel).get
          cases eA
          obtain ⟨ad, rfl, d0⟩ := gA (k * 3) _ (by have := hgk 0 hlt (by omega); simp only [Nat.add_zero] at this; rw [this]; rfl)
          obtain ⟨_, eA, d1⟩ := gA (k * 3 + (0 + 1)) _ (by rw [hgk 1 hlt (by omega)]; rfl)
          cases eA
          obtain ⟨_, eA, d2⟩ := gA (k * 3 + (1 + 1)) _ (by rw [hgk 2 hlt (by omega)]; rfl)
          cases eA
          clear gA hgk
          have x1 : (0 : Int) ≤ k := by omega
          have x2 : (k : Int).toNat = k := by omega
          have KK := Lib.hid (show k + 1 ≤ a1.length from hlt)
          generalize hX : a1[k]'hlt = X at *
          obtain ⟨kd, sd, nd⟩ := X
          simp only at d0 d1 d2
          obtain ⟨ok1, ok2, ok3⟩ := xok
          simp only at ok1 ok2 ok3
          have hnd : nd ≤ 9223372036854775807 := by
            simp [Lit.wf, IntKind.min, IntKind.max, IntKind.signed, IntKind.bits] at ok3
            omega
          have d1 := cell_at d1
          have d2 := cell_at d2
          have hsz : (bs sd).size = sd.length := bs_size sd
          have BW := Lib.hid HS.out.tp.bel
          clear hX ok3
          by_cases hS : sd.length ≤ 200 ∨ sd.length = 20001
          · rcases hS with hS | hS
            · have hSI : ¬ (200 : Int) < sd.length := by omega
              by_cases hP : ((bs kd).toList == [97, 112, 112, 101, 110, 100]) = true
              · as_aux_lemma =>
                  go_upto_region 20 with fail
                  have HXN := Lib.hid (heap_alloc_new wr (.cells #[.string (bs kd), .string (bs sd), .int .i64 nd] 33))
                  have HXB := Lib.hid (wb_alloc wr (.cells #[.string (bs kd), .string (bs sd), .int .i64 nd] 33))
                  have HWX := Lib.hid (HS.out.below HXB.out)
                  have NF : Hid (¬ F wr.heap.size) := Lib.hid fun hf => by have := (HS.out.tp.lo _ hf).2; omega
                  have NE : Hid (wr.heap.size ≠ mt) := Lib.hid fun e => by have := HS.out.td.lt; omega
                  generalize hwx : wr.alloc (.cells #[.string (bs kd), .string (bs sd), .int .i64 nd] 33) = wx at *
                  generalize hxb : wr.heap.size = xb at *
                  have BR := Below.refl wx.heap.size wx
                  have DD : Hid (∀ w' : World, w'.heap[xb]? = some (.cells #[.string (bs kd), .string (bs sd), .int .i64 nd] 33 (0, 0)) → (w'.cell? ⟨xb, 1, none⟩ = some (.string (bs sd)) ∧ w'.cell? ⟨xb, 2, none⟩ = some (.int .i64 nd)) ∧ w'.heap[xb]? = some (.cells #[.string (bs kd), .string (bs sd), .int .i64 nd] 33 (0, 0))) := Lib.hid fun w' hc => by
                    refine ⟨⟨by simp [World.cell?, hc], by simp [World.cell?, hc]⟩, hc⟩
                  have S0 := DD.out wx HXN.out
                  have XH := Lib.hid (fun (w' : World) (b : Below wx.heap.size wx w') => (b.block xb (lt_of_block' HXN.out)).trans HXN.out)
                  clear hwx hxb HXB
                  have AP := Lib.hid (fun (w' : World) (b : Below wx.heap.size wx w') => a_app sd (HWX.out.below b) HE.out (by omega) (XH.out _ b) NF.out)
                  have DP := Lib.hid (fun (w' : World) (h : Mid w db mt d (apT d sd) xb (.cells #[.string (bs kd), .string (bs sd), .int .i64 nd] 33 (0, 0)) w') => d_app (w := w') sd h (by omega) HL.out NE.out)
                  have CE := Lib.hid (fun (w' : World) (h : Errs E w') => coded_ev E (apC d sd) w' h (apC_le d sd))
                  generalize apC d sd = C at *
                  go_region_held3 (fun w' => (w'.cell? ⟨xb, 1, none⟩ = some (.string (bs sd)) ∧ w'.cell? ⟨xb, 2, none⟩ = some (.int .i64 nd)) ∧ w'.heap[xb]? = some (.cells #[.string (bs kd), .string (bs sd), .int .i64 nd] 33 (0, 0))) (first | assumption | exact S0 | exact DD.out _ (XH.out _ (Below.drew BR)))
                    (first
                    | (go_at_call 8; refine (AP.out _ (by first | exact BR | exact Below.drew BR)).mono ?_; rintro e w5 ⟨rfl, mid5⟩; have SS5 : (w5.cell? ⟨xb, 1, none⟩ = some (.string (bs sd)) ∧ w5.cell? ⟨xb, 2, none⟩ = some (.int .i64 nd)) ∧ w5.heap[xb]? = some (.cells #[.string (bs kd), .string (bs sd), .int .i64 nd] 33 (0, 0)) := (by obtain ⟨_, _, h, _⟩ := mid5; exact DD.out _ h); have MD5 := Lib.hid mid5; clear mid5)
                    | (go_at_call 9; refine (DP.out _ MD5.out).mono ?_; rintro e w6 ⟨rfl, fin6⟩; have SS6 := DD.out _ fin6.2; have FN6 := Lib.hid fin6; clear fin6)
                    | (go_at_call 7; refine (CE.out _ (by obtain ⟨⟨_, h⟩, _⟩ := FN6.out; exact HERR.out.below h.tp.bel)).mono ?_; rintro e wt ⟨rfl, bt⟩; have FN7 := Lib.hid (FN6.out.below bt); have SS7 := DD.out _ FN7.out.2; clear bt))
                  obtain ⟨F', hz⟩ := FN7.out.1
                  have HZ := Lib.hid hz
                  obtain ⟨d', hd'⟩ : ∃ d', d' = apT d sd := ⟨_, rfl⟩
                  rw [← hd'] at HZ
                  clear hz hd' S0 SS5 SS6 SS7 DD XH AP DP CE MD5 FN6 FN7
                  have BY0 := Lib.hid (tbytes_s HZ.out.tp)
                  have PW0 := Lib.hid (tpower_s HZ.out.tp)
                  have BYD := Lib.hid (fun n => tbytes_s (w := wt.drewN n) (HZ.out.tp.below (Drew.below (Drew.drewN _ n) _)))
                  have PWD := Lib.hid (fun n => tpower_s (w := wt.drewN n) (HZ.out.tp.below (Drew.below (Drew.drewN _ n) _)))
                  obtain ⟨⟨t0, t1, t2⟩, _⟩ := HZ.out.td.cs
                  have hbe := bsl_eq d'.b
                  have hne : ((bs d'.b).toList != (bs d'.b).toList) = false := by simp
                  have hoo : ((!d'.off) == d'.off) = false := by cases d'.off <;> rfl
                  have HBZ := Lib.hid HZ.out.tp.bel
                  clear t2
                  generalize bs d'.b = db' at *
                  generalize d'.off = do' at *
                  go_wp2_with fail
                  go_quiet ((first | (go_at_call 16; first | exact Calls.quiet_of_same BY0.out | exact Calls.quiet_of_same (BYD.out _) | exact quiet_of (BYD.out _)) | (go_at_call 17; first | exact Calls.quiet_of_same PW0.out | exact Calls.quiet_of_same (PWD.out _) | exact quiet_of (PWD.out _))))
                  rename_i nq
                  have HZ9 := Lib.hid (HZ.out.below (Drew.below (Drew.drewN wt nq) _))
                  clear BY0 PW0 BYD PWD HZ t0 t1
                  go_wp2_with fail
                  go_roundw
                  case rel => exact ⟨k + 1, d', F', by go_num, KK.out, HZ9.out⟩
                  case measure => simp [intOf]; omega
              · have hP := Bool.eq_false_iff.2 hP
                by_cases hA : ((bs kd).toList == [99, 117, 116]) = true
                · as_aux_lemma =>
                    go_upto_region 23 with fail
                    have HXN := Lib.hid (heap_alloc_new wr (.cells #[.string (bs kd), .string (bs sd), .int .i64 nd] 33))
                    have HXB := Lib.hid (wb_alloc wr (.cells #[.string (bs kd), .string (bs sd), .int .i64 nd] 33))
                    have HWX := Lib.hid (HS.out.below HXB.out)
                    have NF : Hid (¬ F wr.heap.size) := Lib.hid fun hf => by have := (HS.out.tp.lo _ hf).2; omega
                    have NE : Hid (wr.heap.size ≠ mt) := Lib.hid fun e => by have := HS.out.td.lt; omega
                    generalize hwx : wr.alloc (.cells #[.string (bs kd), .string (bs sd), .int .i64 nd] 33) = wx at *
                    generalize hxb : wr.heap.size = xb at *
                    have BR := Below.refl wx.heap.size wx
                    have DD : Hid (∀ w' : World, w'.heap[xb]? = some (.cells #[.string (bs kd), .string (bs sd), .int .i64 nd] 33 (0, 0)) → (w'.cell? ⟨xb, 1, none⟩ = some (.string (bs sd)) ∧ w'.cell? ⟨xb, 2, none⟩ = some (.int .i64 nd)) ∧ w'.heap[xb]? = some (.cells #[.string (bs kd), .string (bs sd), .int .i64 nd] 33 (0, 0))) := Lib.hid fun w' hc => by
                      refine ⟨⟨by simp [World.cell?, hc], by simp [World.cell?, hc]⟩, hc⟩
                    have S0 := DD.out wx HXN.out
                    have XH := Lib.hid (fun (w' : World) (b : Below wx.heap.size wx w') => (b.block xb (lt_of_block' HXN.out)).trans HXN.out)
                    clear hwx hxb HXB
                    have AP := Lib.hid (fun (w' : World) (b : Below wx.heap.size wx w') => a_cut nd (HWX.out.below b) HE.out hnd (XH.out _ b) NF.out)
                    have DP := Lib.hid (fun (w' : World) (h : Mid w db mt d (ctT d nd) xb (.cells #[.string (bs kd), .string (bs sd), .int .i64 nd] 33 (0, 0)) w') => d_cut (w := w') nd h hnd HL.out NE.out)
                    have CE := Lib.hid (fun (w' : World) (h : Errs E w') => coded_ev E (ctC d nd) w' h (ctC_le d nd))
                    generalize ctC d nd = C at *
                    go_region_held3 (fun w' => (w'.cell? ⟨xb, 1, none⟩ = some (.string (bs sd)) ∧ w'.cell? ⟨xb, 2, none⟩ = some (.int .i64 nd)) ∧ w'.heap[xb]? = some (.cells #[.string (bs kd), .string (bs sd), .int .i64 nd] 33 (0, 0))) (first | assumption | exact S0 | exact DD.out _ (XH.out _ (Below.drew BR)))
                      (first
                      | (go_at_call 10; refine (AP.out _ (by first | exact BR | exact Below.drew BR)).mono ?_; rintro e w5 ⟨rfl, mid5⟩; have SS5 : (w5.cell? ⟨xb, 1, none⟩ = some (.string (bs sd)) ∧ w5.cell? ⟨xb, 2, none⟩ = some (.int .i64 nd)) ∧ w5.heap[xb]? = some (.cells #[.string (bs kd), .string (bs sd), .int .i64 nd] 33 (0, 0)) := (by obtain ⟨_, _, h, _⟩ := mid5; exact DD.out _ h); have MD5 := Lib.hid mid5; clear mid5)
                      | (go_at_call 11; refine (DP.out _ MD5.out).mono ?_; rintro e w6 ⟨rfl, fin6⟩; have SS6 := DD.out _ fin6.2; have FN6 := Lib.hid fin6; clear fin6)
                      | (go_at_call 7; refine (CE.out _ (by obtain ⟨⟨_, h⟩, _⟩ := FN6.out; exact HERR.out.below h.tp.bel)).mono ?_; rintro e wt ⟨rfl, bt⟩; have FN7 := Lib.hid (FN6.out.below bt); have SS7 := DD.out _ FN7.out.2; clear bt))
                    obtain ⟨F', hz⟩ := FN7.out.1
                    have HZ := Lib.hid hz
                    obtain ⟨d', hd'⟩ : ∃ d', d' = ctT d nd := ⟨_, rfl⟩
                    rw [← hd'] at HZ
                    clear hz hd' S0 SS5 SS6 SS7 DD XH AP DP CE MD5 FN6 FN7
                    have BY0 := Lib.hid (tbytes_s HZ.out.tp)
                    have PW0 := Lib.hid (tpower_s HZ.out.tp)
                    have BYD := Lib.hid (fun n => tbytes_s (w := wt.drewN n) (HZ.out.tp.below (Drew.below (Drew.drewN _ n) _)))
                    have PWD := Lib.hid (fun n => tpower_s (w := wt.drewN n) (HZ.out.tp.below (Drew.below (Drew.drewN _ n) _)))
                    obtain ⟨⟨t0, t1, t2⟩, _⟩ := HZ.out.td.cs
                    have hbe := bsl_eq d'.b
                    have hne : ((bs d'.b).toList != (bs d'.b).toList) = false := by simp
                    have hoo : ((!d'.off) == d'.off) = false := by cases d'.off <;> rfl
                    have HBZ := Lib.hid HZ.out.tp.bel
                    clear t2
                    generalize bs d'.b = db' at *
                    generalize d'.off = do' at *
                    go_wp2_with fail
                    go_quiet ((first | (go_at_call 16; first | exact Calls.quiet_of_same BY0.out | exact Calls.quiet_of_same (BYD.out _) | exact quiet_of (BYD.out _)) | (go_at_call 17; first | exact Calls.quiet_of_same PW0.out | exact Calls.quiet_of_same (PWD.out _) | exact quiet_of (PWD.out _))))
                    rename_i nq
                    have HZ9 := Lib.hid (HZ.out.below (Drew.below (Drew.drewN wt nq) _))
                    clear BY0 PW0 BYD PWD HZ t0 t1
                    go_wp2_with fail
                    go_roundw
                    case rel => exact ⟨k + 1, d', F', by go_num, KK.out, HZ9.out⟩
                    case measure => simp [intOf]; omega
                · have hA := Bool.eq_false_iff.2 hA
                  by_cases hO : ((bs kd).toList == [111, 110]) = true
                  · as_aux_lemma =>
                      have HXB := Lib.hid (wb_alloc wr (.cells #[.string (bs kd), .string (bs sd), .int .i64 nd] 33))
                      have HWX := Lib.hid (HS.out.below HXB.out)
                      clear HXB
                      have ON := Lib.hid (ton_s HWX.out.tp)
                      go_wp2_with fail
                      refine ON.out.mono ?_
                      rintro e w5 ⟨rfl, F', t5, l5⟩
                      have md := HWX.out.mid t5 l5
                      rw [onT_is] at md
                      obtain ⟨⟨_, m1, m2⟩, mf⟩ := md.td.cs
                      have f1 := mf 1
                      have f2 := mf 2
                      have k1 := md.td.setOff false
                      have k2 := k1.1.setCut (-1) (by decide)
                      have HZ : Hid (TpD w ((w5.setCell ⟨mt, 1, none⟩ (.bool false)).setCell ⟨mt, 2, none⟩ (.int .i64 (-1))) F' db mt ⟨d.b, false, -1⟩) := Lib.hid (md.done (k1.trans k2) HL.out)
                      clear md mf t5 l5 k1 k2 ON
                      go_wp2_with fail
                      generalize (w5.setCell ⟨mt, 1, none⟩ (.bool false)).setCell ⟨mt, 2, none⟩ (.int .i64 (-1)) = wt at *
                      obtain ⟨d', hd'⟩ : ∃ d', d' = (⟨d.b, false, -1⟩ : TP) := ⟨_, rfl⟩
                      rw [← hd'] at HZ
                      clear hd' m1 m2 f1 f2
                      have BY0 := Lib.hid (tbytes_s HZ.out.tp)
                      have PW0 := Lib.hid (tpower_s HZ.out.tp)
                      have BYD := Lib.hid (fun n => tbytes_s (w := wt.drewN n) (HZ.out.tp.below (Drew.below (Drew.drewN _ n) _)))
                      have PWD := Lib.hid (fun n => tpower_s (w := wt.drewN n) (HZ.out.tp.below (Drew.below (Drew.drewN _ n) _)))
                      obtain ⟨⟨t0, t1, t2⟩, _⟩ := HZ.out.td.cs
                      have hbe := bsl_eq d'.b
                      have hne : ((bs d'.b).toList != (bs d'.b).toList) = false := by simp
                      have hoo : ((!d'.off) == d'.off) = false := by cases d'.off <;> rfl
                      have HBZ := Lib.hid HZ.out.tp.bel
                      clear t2
                      generalize bs d'.b = db' at *
                      generalize d'.off = do' at *
                      go_wp2_with fail
                      go_quiet ((first | (go_at_call 16; first | exact Calls.quiet_of_same BY0.out | exact Calls.quiet_of_same (BYD.out _) | exact quiet_of (BYD.out _)) | (go_at_call 17; first | exact Calls.quiet_of_same PW0.out | exact Calls.quiet_of_same (PWD.out _) | exact quiet_of (PWD.out _))))
                      rename_i nq
                      have HZ9 := Lib.hid (HZ.out.below (Drew.below (Drew.drewN wt nq) _))
                      clear BY0 PW0 BYD PWD HZ t0 t1
                      go_wp2_with fail
                      go_roundw
                      case rel => exact ⟨k + 1, d', F', by go_num, KK.out, HZ9.out⟩
                      case measure => simp [intOf]; omega
                  · have hO := Bool.eq_false_iff.2 hO
                    · as_aux_lemma =>
                        have HXB := Lib.hid (wb_alloc wr (.cells #[.string (bs kd), .string (bs sd), .int .i64 nd] 33))
                        have HWX := Lib.hid (HS.out.below HXB.out)
                        clear HXB
                        have RC := Lib.hid (trec_s HWX.out.tp HE.out (by have := HL.out; omega))
                        go_wp2_with fail
                        refine RC.out.mono ?_
                        rintro e w5 ⟨r5, rfl, o5, F', t5, l5⟩
                        obtain ⟨ra, rc, rfl⟩ := owns_slice o5
                        have md := HWX.out.mid t5 l5
                        have DR := Lib.hid (rtrec_any mt d w5 md.td (by have := HL.out; omega))
                        have MD := Lib.hid md
                        have O5 := Lib.hid o5
                        have hle := (World.ownsRow.lt o5)
                        clear t5 l5 o5 RC md
                        go_wp2_with fail
                        refine DR.out.mono ?_
                        rintro e w6 ⟨r6, rfl, o6, t6⟩
                        obtain ⟨rb, rd, rfl⟩ := owns_slice o6
                        have HZ6 := Lib.hid (MD.out.done t6 (rcT_fits HL.out))
                        have S6 := Lib.hid (SliceIs.ownedK o6)
                        have S5 : Hid (SliceIs w6 (.slice ra (readL d.b).1.length rc) 1 (strV (readL d.b).1)) := Lib.hid (SliceIs.ownedK (own_other' O5.out t6.2 (fun x hx e => by
                          have h1 := (O5.out.lt x hx).1
                          have h2 := HWX.out.td.lt
                          subst e
                          omega)))
                        have ST := Lib.hid (sameTexts_is _ _ (readL d.b).1 (readL d.b).1 w6 S5.out S6.out)
                        have hq : ((readL d.b).1 == (readL d.b).1) = true := by simp
                        rw [hq] at ST
                        clear o6 t6 DR O5 S5 S6 hle hq
                        go_wp2_with fail
                        refine ST.out.mono ?_
                        rintro e wt ⟨rfl, dt⟩
                        have HZ := Lib.hid (HZ6.out.below (dt.below _))
                        obtain ⟨d', hd'⟩ : ∃ d', d' = rcT d := ⟨_, rfl⟩
                        rw [← hd'] at HZ
                        clear hd' dt ST HZ6 MD
                        have BY0 := Lib.hid (tbytes_s HZ.out.tp)
                        have PW0 := Lib.hid (tpower_s HZ.out.tp)
                        have BYD := Lib.hid (fun n => tbytes_s (w := wt.drewN n) (HZ.out.tp.below (Drew.below (Drew.drewN _ n) _)))
                        have PWD := Lib.hid (fun n => tpower_s (w := wt.drewN n) (HZ.out.tp.below (Drew.below (Drew.drewN _ n) _)))
                        obtain ⟨⟨t0, t1, t2⟩, _⟩ := HZ.out.td.cs
                        have hbe := bsl_eq d'.b
                        have hne : ((bs d'.b).toList != (bs d'.b).toList) = false := by simp
                        have hoo : ((!d'.off) == d'.off) = false := by cases d'.off <;> rfl
                        have HBZ := Lib.hid HZ.out.tp.bel
                        clear t2
                        generalize bs d'.b = db' at *
                        generalize d'.off = do' at *
                        go_wp2_with fail
                        go_quiet ((first | (go_at_call 16; first | exact Calls.quiet_of_same BY0.out | exact Calls.quiet_of_same (BYD.out _) | exact quiet_of (BYD.out _)) | (go_at_call 17; first | exact Calls.quiet_of_same PW0.out | exact Calls.quiet_of_same (PWD.out _) | exact quiet_of (PWD.out _))))
                        rename_i nq
                        have HZ9 := Lib.hid (HZ.out.below (Drew.below (Drew.drewN wt nq) _))
                        clear BY0 PW0 BYD PWD HZ t0 t1
                        go_wp2_with fail
                        go_roundw
                        case rel => exact ⟨k + 1, d', F', by go_num, KK.out, HZ9.out⟩
                        case measure => simp [intOf]; omega
            · have hSI : (200 : Int) < sd.length := by omega
              have hSE : ((sd.length : Int) == 20001) = true := by simp; omega
              have hSN : ((sd.length : Int) != 20001) = false := by simp; omega
              by_cases hP : ((bs kd).toList == [97, 112, 112, 101, 110, 100]) = true
              · as_aux_lemma =>
                  go_upto_region 20 with fail
                  have HXN := Lib.hid (heap_alloc_new wr (.cells #[.string (bs kd), .string (bs sd), .int .i64 nd] 33))
                  have HXB := Lib.hid (wb_alloc wr (.cells #[.string (bs kd), .string (bs sd), .int .i64 nd] 33))
                  have HWX := Lib.hid (HS.out.below HXB.out)
                  have NF : Hid (¬ F wr.heap.size) := Lib.hid fun hf => by have := (HS.out.tp.lo _ hf).2; omega
                  have NE : Hid (wr.heap.size ≠ mt) := Lib.hid fun e => by have := HS.out.td.lt; omega
                  generalize hwx : wr.alloc (.cells #[.string (bs kd), .string (bs sd), .int .i64 nd] 33) = wx at *
                  generalize hxb : wr.heap.size = xb at *
                  have BR := Below.refl wx.heap.size wx
                  have DD : Hid (∀ w' : World, w'.heap[xb]? = some (.cells #[.string (bs kd), .string (bs sd), .int .i64 nd] 33 (0, 0)) → (w'.cell? ⟨xb, 1, none⟩ = some (.string (bs sd)) ∧ w'.cell? ⟨xb, 2, none⟩ = some (.int .i64 nd)) ∧ w'.heap[xb]? = some (.cells #[.string (bs kd), .string (bs sd), .int .i64 nd] 33 (0, 0))) := Lib.hid fun w' hc => by
                    refine ⟨⟨by simp [World.cell?, hc], by simp [World.cell?, hc]⟩, hc⟩
                  have S0 := DD.out wx HXN.out
                  have XH := Lib.hid (fun (w' : World) (b : Below wx.heap.size wx w') => (b.block xb (lt_of_block' HXN.out)).trans HXN.out)
                  clear hwx hxb HXB
                  have AP := Lib.hid (fun (w' : World) (b : Below wx.heap.size wx w') => a_app sd (HWX.out.below b) HE.out (by omega) (XH.out _ b) NF.out)
                  have DP := Lib.hid (fun (w' : World) (h : Mid w db mt d (apT d sd) xb (.cells #[.string (bs kd), .string (bs sd), .int .i64 nd] 33 (0, 0)) w') => d_app (w := w') sd h (by omega) HL.out NE.out)
                  have CE := Lib.hid (fun (w' : World) (h : Errs E w') => coded_ev E (apC d sd) w' h (apC_le d sd))
                  generalize apC d sd = C at *
                  go_region_held3 (fun w' => (w'.cell? ⟨xb, 1, none⟩ = some (.string (bs sd)) ∧ w'.cell? ⟨xb, 2, none⟩ = some (.int .i64 nd)) ∧ w'.heap[xb]? = some (.cells #[.string (bs kd), .string (bs sd), .int .i64 nd] 33 (0, 0))) (first | assumption | exact S0 | exact DD.out _ (XH.out _ (Below.drew BR)))
                    (first
                    | (go_at_call 8; refine (AP.out _ (by first | exact BR | exact Below.drew BR)).mono ?_; rintro e w5 ⟨rfl, mid5⟩; have SS5 : (w5.cell? ⟨xb, 1, none⟩ = some (.string (bs sd)) ∧ w5.cell? ⟨xb, 2, none⟩ = some (.int .i64 nd)) ∧ w5.heap[xb]? = some (.cells #[.string (bs kd), .string (bs sd), .int .i64 nd] 33 (0, 0)) := (by obtain ⟨_, _, h, _⟩ := mid5; exact DD.out _ h); have MD5 := Lib.hid mid5; clear mid5)
                    | (go_at_call 9; refine (DP.out _ MD5.out).mono ?_; rintro e w6 ⟨rfl, fin6⟩; have SS6 := DD.out _ fin6.2; have FN6 := Lib.hid fin6; clear fin6)
                    | (go_at_call 7; refine (CE.out _ (by obtain ⟨⟨_, h⟩, _⟩ := FN6.out; exact HERR.out.below h.tp.bel)).mono ?_; rintro e wt ⟨rfl, bt⟩; have FN7 := Lib.hid (FN6.out.below bt); have SS7 := DD.out _ FN7.out.2; clear bt))
                  obtain ⟨F', hz⟩ := FN7.out.1
                  have HZ := Lib.hid hz
                  obtain ⟨d', hd'⟩ : ∃ d', d' = apT d sd := ⟨_, rfl⟩
                  rw [← hd'] at HZ
                  clear hz hd' S0 SS5 SS6 SS7 DD XH AP DP CE MD5 FN6 FN7
                  have BY0 := Lib.hid (tbytes_s HZ.out.tp)
                  have PW0 := Lib.hid (tpower_s HZ.out.tp)
                  have BYD := Lib.hid (fun n => tbytes_s (w := wt.drewN n) (HZ.out.tp.below (Drew.below (Drew.drewN _ n) _)))
                  have PWD := Lib.hid (fun n => tpower_s (w := wt.drewN n) (HZ.out.tp.below (Drew.below (Drew.drewN _ n) _)))
                  obtain ⟨⟨t0, t1, t2⟩, _⟩ := HZ.out.td.cs
                  have hbe := bsl_eq d'.b
                  have hne : ((bs d'.b).toList != (bs d'.b).toList) = false := by simp
                  have hoo : ((!d'.off) == d'.off) = false := by cases d'.off <;> rfl
                  have HBZ := Lib.hid HZ.out.tp.bel
                  clear t2
                  generalize bs d'.b = db' at *
                  generalize d'.off = do' at *
                  go_wp2_with fail
                  go_quiet ((first | (go_at_call 16; first | exact Calls.quiet_of_same BY0.out | exact Calls.quiet_of_same (BYD.out _) | exact quiet_of (BYD.out _)) | (go_at_call 17; first | exact Calls.quiet_of_same PW0.out | exact Calls.quiet_of_same (PWD.out _) | exact quiet_of (PWD.out _))))
                  rename_i nq
                  have HZ9 := Lib.hid (HZ.out.below (Drew.below (Drew.drewN wt nq) _))
                  clear BY0 PW0 BYD PWD HZ t0 t1
                  go_wp2_with fail
                  go_roundw
                  case rel => exact ⟨k + 1, d', F', by go_num, KK.out, HZ9.out⟩
                  case measure => simp [intOf]; omega
              · have hP := Bool.eq_false_iff.2 hP
                by_cases hA : ((bs kd).toList == [99, 117, 116]) = true
                · as_aux_lemma =>
                    go_upto_region 23 with fail
                    have HXN := Lib.hid (heap_alloc_new wr (.cells #[.string (bs kd), .string (bs sd), .int .i64 nd] 33))
                    have HXB := Lib.hid (wb_alloc wr (.cells #[.string (bs kd), .string (bs sd), .int .i64 nd] 33))
                    have HWX := Lib.hid (HS.out.below HXB.out)
                    have NF : Hid (¬ F wr.heap.size) := Lib.hid fun hf => by have := (HS.out.tp.lo _ hf).2; omega
                    have NE : Hid (wr.heap.size ≠ mt) := Lib.hid fun e => by have := HS.out.td.lt; omega
                    generalize hwx : wr.alloc (.cells #[.string (bs kd), .string (bs sd), .int .i64 nd] 33) = wx at *
                    generalize hxb : wr.heap.size = xb at *
                    have BR := Below.refl wx.heap.size wx
                    have DD : Hid (∀ w' : World, w'.heap[xb]? = some (.cells #[.string (bs kd), .string (bs sd), .int .i64 nd] 33 (0, 0)) → (w'.cell? ⟨xb, 1, none⟩ = some (.string (bs sd)) ∧ w'.cell? ⟨xb, 2, none⟩ = some (.int .i64 nd)) ∧ w'.heap[xb]? = some (.cells #[.string (bs kd), .string (bs sd), .int .i64 nd] 33 (0, 0))) := Lib.hid fun w' hc => by
                      refine ⟨⟨by simp [World.cell?, hc], by simp [World.cell?, hc]⟩, hc⟩
                    have S0 := DD.out wx HXN.out
                    have XH := Lib.hid (fun (w' : World) (b : Below wx.heap.size wx w') => (b.block xb (lt_of_block' HXN.out)).trans HXN.out)
                    clear hwx hxb HXB
                    have AP := Lib.hid (fun (w' : World) (b : Below wx.heap.size wx w') => a_cut nd (HWX.out.below b) HE.out hnd (XH.out _ b) NF.out)
                    have DP := Lib.hid (fun (w' : World) (h : Mid w db mt d (ctT d nd) xb (.cells #[.string (bs kd), .string (bs sd), .int .i64 nd] 33 (0, 0)) w') => d_cut (w := w') nd h hnd HL.out NE.out)
                    have CE := Lib.hid (fun (w' : World) (h : Errs E w') => coded_ev E (ctC d nd) w' h (ctC_le d nd))
                    generalize ctC d nd = C at *
                    go_region_held3 (fun w' => (w'.cell? ⟨xb, 1, none⟩ = some (.string (bs sd)) ∧ w'.cell? ⟨xb, 2, none⟩ = some (.int .i64 nd)) ∧ w'.heap[xb]? = some (.cells #[.string (bs kd), .string (bs sd), .int .i64 nd] 33 (0, 0))) (first | assumption | exact S0 | exact DD.out _ (XH.out _ (Below.drew BR)))
                      (first
                      | (go_at_call 10; refine (AP.out _ (by first | exact BR | exact Below.drew BR)).mono ?_; rintro e w5 ⟨rfl, mid5⟩; have SS5 : (w5.cell? ⟨xb, 1, none⟩ = some (.string (bs sd)) ∧ w5.cell? ⟨xb, 2, none⟩ = some (.int .i64 nd)) ∧ w5.heap[xb]? = some (.cells #[.string (bs kd), .string (bs sd), .int .i64 nd] 33 (0, 0)) := (by obtain ⟨_, _, h, _⟩ := mid5; exact DD.out _ h); have MD5 := Lib.hid mid5; clear mid5)
                      | (go_at_call 11; refine (DP.out _ MD5.out).mono ?_; rintro e w6 ⟨rfl, fin6⟩; have SS6 := DD.out _ fin6.2; have FN6 := Lib.hid fin6; clear fin6)
                      | (go_at_call 7; refine (CE.out _ (by obtain ⟨⟨_, h⟩, _⟩ := FN6.out; exact HERR.out.below h.tp.bel)).mono ?_; rintro e wt ⟨rfl, bt⟩; have FN7 := Lib.hid (FN6.out.below bt); have SS7 := DD.out _ FN7.out.2; clear bt))
                    obtain ⟨F', hz⟩ := FN7.out.1
                    have HZ := Lib.hid hz
                    obtain ⟨d', hd'⟩ : ∃ d', d' = ctT d nd := ⟨_, rfl⟩
                    rw [← hd'] at HZ
                    clear hz hd' S0 SS5 SS6 SS7 DD XH AP DP CE MD5 FN6 FN7
                    have BY0 := Lib.hid (tbytes_s HZ.out.tp)
                    have PW0 := Lib.hid (tpower_s HZ.out.tp)
                    have BYD := Lib.hid (fun n => tbytes_s (w := wt.drewN n) (HZ.out.tp.below (Drew.below (Drew.drewN _ n) _)))
                    have PWD := Lib.hid (fun n => tpower_s (w := wt.drewN n) (HZ.out.tp.below (Drew.below (Drew.drewN _ n) _)))
                    obtain ⟨⟨t0, t1, t2⟩, _⟩ := HZ.out.td.cs
                    have hbe := bsl_eq d'.b
                    have hne : ((bs d'.b).toList != (bs d'.b).toList) = false := by simp
                    have hoo : ((!d'.off) == d'.off) = false := by cases d'.off <;> rfl
                    have HBZ := Lib.hid HZ.out.tp.bel
                    clear t2
                    generalize bs d'.b = db' at *
                    generalize d'.off = do' at *
                    go_wp2_with fail
                    go_quiet ((first | (go_at_call 16; first | exact Calls.quiet_of_same BY0.out | exact Calls.quiet_of_same (BYD.out _) | exact quiet_of (BYD.out _)) | (go_at_call 17; first | exact Calls.quiet_of_same PW0.out | exact Calls.quiet_of_same (PWD.out _) | exact quiet_of (PWD.out _))))
                    rename_i nq
                    have HZ9 := Lib.hid (HZ.out.below (Drew.below (Drew.drewN wt nq) _))
                    clear BY0 PW0 BYD PWD HZ t0 t1
                    go_wp2_with fail
                    go_roundw
                    case rel => exact ⟨k + 1, d', F', by go_num, KK.out, HZ9.out⟩
                    case measure => simp [intOf]; omega
                · have hA := Bool.eq_false_iff.2 hA
                  by_cases hO : ((bs kd).toList == [111, 110]) = true
                  · as_aux_lemma =>
                      have HXB := Lib.hid (wb_alloc wr (.cells #[.string (bs kd), .string (bs sd), .int .i64 nd] 33))
                      have HWX := Lib.hid (HS.out.below HXB.out)
                      clear HXB
                      have ON := Lib.hid (ton_s HWX.out.tp)
                      go_wp2_with fail
                      refine ON.out.mono ?_
                      rintro e w5 ⟨rfl, F', t5, l5⟩
                      have md := HWX.out.mid t5 l5
                      rw [onT_is] at md
                      obtain ⟨⟨_, m1, m2⟩, mf⟩ := md.td.cs
                      have f1 := mf 1
                      have f2 := mf 2
                      have k1 := md.td.setOff false
                      have k2 := k1.1.setCut (-1) (by decide)
                      have HZ : Hid (TpD w ((w5.setCell ⟨mt, 1, none⟩ (.bool false)).setCell ⟨mt, 2, none⟩ (.int .i64 (-1))) F' db mt ⟨d.b, false, -1⟩) := Lib.hid (md.done (k1.trans k2) HL.out)
                      clear md mf t5 l5 k1 k2 ON
                      go_wp2_with fail
                      generalize (w5.setCell ⟨mt, 1, none⟩ (.bool false)).setCell ⟨mt, 2, none⟩ (.int .i64 (-1)) = wt at *
                      obtain ⟨d', hd'⟩ : ∃ d', d' = (⟨d.b, false, -1⟩ : TP) := ⟨_, rfl⟩
                      rw [← hd'] at HZ
                      clear hd' m1 m2 f1 f2
                      have BY0 := Lib.hid (tbytes_s HZ.out.tp)
                      have PW0 := Lib.hid (tpower_s HZ.out.tp)
                      have BYD := Lib.hid (fun n => tbytes_s (w := wt.drewN n) (HZ.out.tp.below (Drew.below (Drew.drewN _ n) _)))
                      have PWD := Lib.hid (fun n => tpower_s (w := wt.drewN n) (HZ.out.tp.below (Drew.below (Drew.drewN _ n) _)))
                      obtain ⟨⟨t0, t1, t2⟩, _⟩ := HZ.out.td.cs
                      have hbe := bsl_eq d'.b
                      have hne : ((bs d'.b).toList != (bs d'.b).toList) = false := by simp
                      have hoo : ((!d'.off) == d'.off) = false := by cases d'.off <;> rfl
                      have HBZ := Lib.hid HZ.out.tp.bel
                      clear t2
                      generalize bs d'.b = db' at *
                      generalize d'.off = do' at *
                      go_wp2_with fail
                      go_quiet ((first | (go_at_call 16; first | exact Calls.quiet_of_same BY0.out | exact Calls.quiet_of_same (BYD.out _) | exact quiet_of (BYD.out _)) | (go_at_call 17; first | exact Calls.quiet_of_same PW0.out | exact Calls.quiet_of_same (PWD.out _) | exact quiet_of (PWD.out _))))
                      rename_i nq
                      have HZ9 := Lib.hid (HZ.out.below (Drew.below (Drew.drewN wt nq) _))
                      clear BY0 PW0 BYD PWD HZ t0 t1
                      go_wp2_with fail
                      go_roundw
                      case rel => exact ⟨k + 1, d', F', by go_num, KK.out, HZ9.out⟩
                      case measure => simp [intOf]; omega
                  · have hO := Bool.eq_false_iff.2 hO
                    · as_aux_lemma =>
                        have HXB := Lib.hid (wb_alloc wr (.cells #[.string (bs kd), .string (bs sd), .int .i64 nd] 33))
                        have HWX := Lib.hid (HS.out.below HXB.out)
                        clear HXB
                        have RC := Lib.hid (trec_s HWX.out.tp HE.out (by have := HL.out; omega))
                        go_wp2_with fail
                        refine RC.out.mono ?_
                        rintro e w5 ⟨r5, rfl, o5, F', t5, l5⟩
                        obtain ⟨ra, rc, rfl⟩ := owns_slice o5
                        have md := HWX.out.mid t5 l5
                        have DR := Lib.hid (rtrec_any mt d w5 md.td (by have := HL.out; omega))
                        have MD := Lib.hid md
                        have O5 := Lib.hid o5
                        have hle := (World.ownsRow.lt o5)
                        clear t5 l5 o5 RC md
                        go_wp2_with fail
                        refine DR.out.mono ?_
                        rintro e w6 ⟨r6, rfl, o6, t6⟩
                        obtain ⟨rb, rd, rfl⟩ := owns_slice o6
                        have HZ6 := Lib.hid (MD.out.done t6 (rcT_fits HL.out))
                        have S6 := Lib.hid (SliceIs.ownedK o6)
                        have S5 : Hid (SliceIs w6 (.slice ra (readL d.b).1.length rc) 1 (strV (readL d.b).1)) := Lib.hid (SliceIs.ownedK (own_other' O5.out t6.2 (fun x hx e => by
                          have h1 := (O5.out.lt x hx).1
                          have h2 := HWX.out.td.lt
                          subst e
                          omega)))
                        have ST := Lib.hid (sameTexts_is _ _ (readL d.b).1 (readL d.b).1 w6 S5.out S6.out)
                        have hq : ((readL d.b).1 == (readL d.b).1) = true := by simp
                        rw [hq] at ST
                        clear o6 t6 DR O5 S5 S6 hle hq
                        go_wp2_with fail
                        refine ST.out.mono ?_
                        rintro e wt ⟨rfl, dt⟩
                        have HZ := Lib.hid (HZ6.out.below (dt.below _))
                        obtain ⟨d', hd'⟩ : ∃ d', d' = rcT d := ⟨_, rfl⟩
                        rw [← hd'] at HZ
                        clear hd' dt ST HZ6 MD
                        have BY0 := Lib.hid (tbytes_s HZ.out.tp)
                        have PW0 := Lib.hid (tpower_s HZ.out.tp)
                        have BYD := Lib.hid (fun n => tbytes_s (w := wt.drewN n) (HZ.out.tp.below (Drew.below (Drew.drewN _ n) _)))
                        have PWD := Lib.hid (fun n => tpower_s (w := wt.drewN n) (HZ.out.tp.below (Drew.below (Drew.drewN _ n) _)))
                        obtain ⟨⟨t0, t1, t2⟩, _⟩ := HZ.out.td.cs
                        have hbe := bsl_eq d'.b
                        have hne : ((bs d'.b).toList != (bs d'.b).toList) = false := by simp
                        have hoo : ((!d'.off) == d'.off) = false := by cases d'.off <;> rfl
                        have HBZ := Lib.hid HZ.out.tp.bel
                        clear t2
                        generalize bs d'.b = db' at *
                        generalize d'.off = do' at *
                        go_wp2_with fail
                        go_quiet ((first | (go_at_call 16; first | exact Calls.quiet_of_same BY0.out | exact Calls.quiet_of_same (BYD.out _) | exact quiet_of (BYD.out _)) | (go_at_call 17; first | exact Calls.quiet_of_same PW0.out | exact Calls.quiet_of_same (PWD.out _) | exact quiet_of (PWD.out _))))
                        rename_i nq
                        have HZ9 := Lib.hid (HZ.out.below (Drew.below (Drew.drewN wt nq) _))
                        clear BY0 PW0 BYD PWD HZ t0 t1
                        go_wp2_with fail
                        go_roundw
                        case rel => exact ⟨k + 1, d', F', by go_num, KK.out, HZ9.out⟩
                        case measure => simp [intOf]; omega
          · have hSI : (200 : Int) < sd.length := by omega
            have hSE : ((sd.length : Int) == 20001) = false := by simp; omega
            have hSN : ((sd.length : Int) != 20001) = true := by simp; omega
            go_wp2_with fail
            go_ret
            exact ⟨rfl, BW.out.alloc BW.out.size _⟩
        · have hltI : ¬ (k : Int) < a1.length := by omega
          have HZ := HS
          obtain ⟨⟨t0, _, _⟩, _⟩ := HZ.out.td.cs
          have RD := Lib.hid (read_any E d.b wr (HE.out.lib.below HZ.out.tp.bel) (by have := HL.out; omega))
          have CS := Lib.hid (fun (w' : World) (b : Below wr.heap.size wr w') => (HZ.out.td.below b).cs.1.1)
          have RT := Lib.hid (fun (w' : World) => rreadtape_any d.b w' (by have := HL.out; omega))
          have HB := Lib.hid HZ.out.tp.bel
          generalize readL d.b = R at *
          obtain ⟨rl, rn⟩ := R
          simp only at RD RT
          clear HZ HS
          go_wp2_with fail
          refine RD.out.mono ?_
          rintro e w5 ⟨r5, rfl, o5, b5⟩
          have t5 := CS.out _ b5
          obtain ⟨ra, rc, rfl⟩ := owns_slice o5
          have O5 := Lib.hid o5
          have B5 := Lib.hid (below_trans' HB.out b5)
          clear o5 b5 t0 CS RD
          go_wp2_with fail
          refine (RT.out _).mono ?_
          rintro e w6 ⟨r6, rfl, o6, b6⟩
          obtain ⟨rb, rd, rfl⟩ := owns_slice o6
          have S5 := Lib.hid (SliceIs.ownedK (owns_below O5.out b6))
          have S6 := Lib.hid (SliceIs.ownedK o6)
          have ST := Lib.hid (sameTexts_is _ _ rl rl w6 S5.out S6.out)
          have hq : (rl == rl) = true := by simp
          have hn : ((rn : Int) == rn) = true := by simp
          rw [hq] at ST
          have B6 := Lib.hid (below_trans' B5.out b6)
          clear o6 b6 O5 S5 S6 RT t5 hq
          go_wp2_with fail
          refine ST.out.mono ?_
          rintro e w7 ⟨rfl, d7⟩
          have B7 := Lib.hid (below_trans' B6.out (d7.below _))
          clear d7 ST
          go_wp2_with fail
          go_ret
          exact ⟨rfl, B7.out⟩
    · have hq2I : (50 : Int) < a1.length := by omega
      go_wp2_with fail
      go_ret
      exact ⟨rfl, bA⟩
  · have hq1I : (2000 : Int) < b.length := by omega
    go_wp2_with fail
    go_ret
    exact ⟨rfl, bA⟩
end Go.Proofs.YtomaojpldinmgaaDoor
