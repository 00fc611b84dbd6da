/- The document's tape in memory: one box of three fields. Its methods SetCut, Append, Recover. -/
import Derived.Test.YtomaojpldinmgaaDoorRefTap
namespace Go.Proofs.YtomaojpldinmgaaDoor
open Go.RowKit
set_option linter.unusedVariables false

structure TD (w : World) (mt : Nat) (d : TP) : Prop where
  cells : w.heap[mt]? = some (.cells #[.string (bs d.b), .bool d.off, .int .i64 d.cut] 31 (0, 0))
  cut : -1 ≤ d.cut ∧ d.cut ≤ 9223372036854775807
def TTo (w w' : World) (mt : Nat) (d : TP) : Prop := TD w' mt d ∧ Chg w w' (fun x => x = mt)
section
variable {w w1 w2 : World} {mt : Nat} {d d1 d2 : TP}
theorem TD.lt (h : TD w mt d) : mt < w.heap.size := lt_of_block h.cells
theorem TD.cs (h : TD w mt d) : (w.cell? ⟨mt, 0, none⟩ = some (.string (bs d.b)) ∧ w.cell? ⟨mt, 1, none⟩ = some (.bool d.off) ∧ w.cell? ⟨mt, 2, none⟩ = some (.int .i64 d.cut)) ∧ ∀ k, w.frozen? ⟨mt, k, none⟩ = false := by
  refine ⟨⟨?_, ?_, ?_⟩, fun k => ?_⟩ <;> simp [World.cell?, World.frozen?, h.cells]
theorem TD.kept {S : Nat → Prop} (h : TD w mt d) (hc : Chg w w1 S) (h1 : ¬ S mt) : TD w1 mt d := ⟨(hc.block mt h.lt h1).trans h.cells, h.cut⟩
theorem TD.below (h : TD w mt d) (hb : Below w.heap.size w w1) : TD w1 mt d := h.kept (Chg.of_below hb (fun _ => False)) (fun h => h)
theorem TTo.same (h : TD w mt d) (hb : Below w.heap.size w w1) : TTo w w1 mt d := ⟨h.below hb, Chg.of_below hb _⟩
theorem TTo.trans (h : TTo w w1 mt d1) (k : TTo w1 w2 mt d2) : TTo w w2 mt d2 := ⟨k.1, h.2.trans k.2 (fun _ _ h => h)⟩
theorem TTo.drew (h : TTo w w1 mt d) : TTo w w1.drew mt d := ⟨⟨h.1.cells, h.1.cut⟩, h.2.drew⟩
theorem TD.setB (h : TD w mt d) (l : List UInt8) : TTo w (w.setCell ⟨mt, 0, none⟩ (.string (bs l))) mt ⟨l, d.off, d.cut⟩ :=
  ⟨⟨by simpa using set_at (k := 0) (u := .string (bs l)) h.cells, h.cut⟩, (Chg.refl w (fun x => x = mt)).set ⟨mt, 0, none⟩ (.inl rfl) _⟩
theorem TD.setOff (h : TD w mt d) (o : Bool) : TTo w (w.setCell ⟨mt, 1, none⟩ (.bool o)) mt ⟨d.b, o, d.cut⟩ :=
  ⟨⟨by simpa using set_at (k := 1) (u := .bool o) h.cells, h.cut⟩, (Chg.refl w (fun x => x = mt)).set ⟨mt, 1, none⟩ (.inl rfl) _⟩
theorem TD.setCut (h : TD w mt d) (c : Int) (hc : -1 ≤ c ∧ c ≤ 9223372036854775807) : TTo w (w.setCell ⟨mt, 2, none⟩ (.int .i64 c)) mt ⟨d.b, d.off, c⟩ :=
  ⟨⟨by simpa using set_at (k := 2) (u := .int .i64 c) h.cells, hc⟩, (Chg.refl w (fun x => x = mt)).set ⟨mt, 2, none⟩ (.inl rfl) _⟩
end
set_option maxRecDepth 100000 in
set_option maxHeartbeats 3200000 in
theorem rsetcut_any (mt : Nat) (d : TP) (n : Int) (w : World) (h : TD w mt d) (hn : n ≤ 9223372036854775807) :
    Calls Tryd.prog 11 #[.pointer (some ⟨mt, 0, none⟩), .int .i64 n] w fun e w' => e = .returned (.int .i64 (ctC d n : Nat)) ∧ TTo w w' mt (ctT d n) := by
  obtain ⟨⟨c0, c1, c2⟩, cf⟩ := h.cs
  have f2 := cf 2
  have HD := Lib.hid h
  clear h cf
  by_cases h1 : n < 0
  · have e1 : ctC d n = 2 := by unfold ctC; rw [if_pos h1]
    have e2 : ctT d n = d := by unfold ctT; rw [if_pos h1]
    rw [e1, e2]
    clear e1 e2
    go_enter Tryd.func11, Tryd.ntmps11
    go_wp2_with fail
    go_ret
    exact ⟨rfl, TTo.same HD.out (Below.refl _ _)⟩
  · cases ho : d.off with
    | true =>
      have e1 : ctC d n = 12 := by unfold ctC; rw [if_neg h1, if_pos ho]
      have e2 : ctT d n = d := by unfold ctT; rw [if_neg h1, if_pos ho]
      rw [e1, e2]
      rw [ho] at c1
      clear e1 e2 ho
      go_enter Tryd.func11, Tryd.ntmps11
      go_wp2_with fail
      go_ret
      exact ⟨rfl, TTo.same HD.out (Below.refl _ _)⟩
    | false =>
      have e1 : ctC d n = 0 := by unfold ctC; rw [if_neg h1, if_neg (by simp [ho])]
      have e2 : ctT d n = ⟨d.b, d.off, n⟩ := by unfold ctT; rw [if_neg h1, if_neg (by simp [ho])]
      rw [e1, e2]
      rw [ho] at c1
      have T := Lib.hid (HD.out.setCut n (by omega))
      clear e1 e2 ho
      go_enter Tryd.func11, Tryd.ntmps11
      go_wp2_with fail
      go_ret
      exact ⟨rfl, T.out⟩
theorem ap_big {d : TP} {s : List UInt8} (h : 20000 < s.length) : apC d s = 2 ∧ apT d s = d := by unfold apC apT; rw [if_pos h, if_pos h]; exact ⟨rfl, rfl⟩
theorem ap_full {d : TP} {s : List UInt8} (h : ¬ 20000 < s.length) (h2 : 1048576 < d.b.length + (recL s).length) : apC d s = 8 ∧ apT d s = d := by
  unfold apC apT; rw [if_neg h, if_neg h, if_pos h2, if_pos h2]; exact ⟨rfl, rfl⟩
theorem ap_wr {d : TP} {s : List UInt8} (h : ¬ 20000 < s.length) (h2 : ¬ 1048576 < d.b.length + (recL s).length) : apC d s = wrC d (recL s) ∧ apT d s = wrT d (recL s) := by
  unfold apC apT; rw [if_neg h, if_neg h, if_neg h2, if_neg h2]; exact ⟨rfl, rfl⟩
theorem wr_off {d : TP} {s : List UInt8} (h : d.off = true) : wrC d s = 12 ∧ wrT d s = d := ⟨by unfold wrC; rw [if_pos h], by unfold wrT; rw [if_pos h]⟩
theorem wr_cut {d : TP} {s : List UInt8} (h : d.off = false) (h2 : 0 ≤ d.cut ∧ d.cut < s.length) : wrC d s = 12 ∧ wrT d s = ⟨d.b ++ s.take d.cut.toNat, true, d.cut⟩ := ⟨by unfold wrC; rw [if_neg (by simp [h]), if_pos h2], by unfold wrT; rw [if_neg (by simp [h]), if_pos h2]⟩
theorem wr_fit {d : TP} {s : List UInt8} (h : d.off = false) (h2 : ¬ (0 ≤ d.cut ∧ d.cut < s.length)) (h3 : 0 ≤ d.cut) : wrC d s = 0 ∧ wrT d s = ⟨d.b ++ s, d.off, d.cut - s.length⟩ := ⟨by unfold wrC; rw [if_neg (by simp [h]), if_neg h2], by unfold wrT; rw [if_neg (by simp [h]), if_neg h2, if_pos h3]⟩
theorem wr_free {d : TP} {s : List UInt8} (h : d.off = false) (h3 : ¬ 0 ≤ d.cut) : wrC d s = 0 ∧ wrT d s = ⟨d.b ++ s, d.off, d.cut⟩ := ⟨by unfold wrC; rw [if_neg (by simp [h]), if_neg (by omega)], by unfold wrT; rw [if_neg (by simp [h]), if_neg (by omega), if_neg h3]⟩
attribute [local irreducible] recL readL apC apT wrC wrT
set_option maxRecDepth 100000 in
set_option maxHeartbeats 6400000 in
theorem rtapp_any (mt : Nat) (d : TP) (s : List UInt8) (w : World) (h : TD w mt d) (hs : s.length ≤ 1000000) (hb : d.b.length ≤ 100000000) :
    Calls Tryd.prog 9 #[.pointer (some ⟨mt, 0, none⟩), .string (bs s)] w fun e w' => e = .returned (.int .i64 (apC d s : Nat)) ∧ TTo w w' mt (apT d s) := by
  have HD := Lib.hid h
  have hsz : (bs s).size = s.length := bs_size s
  by_cases h1 : 20000 < s.length
  · obtain ⟨e1, e2⟩ := ap_big (d := d) h1
    rw [e1, e2]
    have hI : (20000 : Int) < s.length := by omega
    clear e1 e2 h
    go_enter Tryd.func9, Tryd.ntmps9
    go_wp2_with fail
    go_ret
    exact ⟨rfl, TTo.same HD.out (Below.refl _ _)⟩
  · have hI : ¬ (20000 : Int) < s.length := by omega
    have RC := Lib.hid (rrecord_any s w (by omega))
    have hrl := recL_le (s := s) (by omega)
    have CS := Lib.hid (fun (w' : World) (b : Below w.heap.size w w') => (h.below b).cs)
    have HB := Lib.hid (fun (w' : World) (b : Below w.heap.size w w') => h.below b)
    have TS := Lib.hid (fun (w' : World) (b : Below w.heap.size w w') => TTo.same h b)
    have hbz : (bs d.b).size = d.b.length := bs_size d.b
    have hcut := h.cut
    obtain ⟨hcut1, hcut2⟩ := hcut
    have hrz : (bs (recL s)).size = (recL s).length := bs_size _
    clear h
    by_cases h2 : 1048576 < d.b.length + (recL s).length
    · obtain ⟨e1, e2⟩ := ap_full h1 h2
      rw [e1, e2]
      have h2I : (1048576 : Int) < (d.b.length : Int) + (recL s).length := by omega
      clear e1 e2
      generalize recL s = r at *
      go_enter Tryd.func9, Tryd.ntmps9
      go_wp2_with fail
      refine RC.out.mono ?_
      rintro e w1 ⟨rfl, b1⟩
      obtain ⟨⟨c0, c1, c2⟩, cf⟩ := CS.out _ b1
      have T1 := Lib.hid (TS.out _ b1)
      clear cf CS HB TS RC HD b1
      go_wp2_with fail
      go_ret
      exact ⟨rfl, T1.out⟩
    · have h2I : ¬ (1048576 : Int) < (d.b.length : Int) + (recL s).length := by omega
      obtain ⟨e1, e2⟩ := ap_wr h1 h2
      rw [e1, e2]
      clear e1 e2
      generalize recL s = r at *
      have hcat : ¬ 9223372036854775807 < d.b.length + r.length := by omega
      cases ho : d.off with
      | true =>
        obtain ⟨e1, e2⟩ := wr_off (s := r) ho
        rw [e1, e2]
        rw [ho] at CS
        clear e1 e2 ho
        go_enter Tryd.func9, Tryd.ntmps9
        go_wp2_with fail
        refine RC.out.mono ?_
        rintro e w1 ⟨rfl, b1⟩
        obtain ⟨⟨c0, c1, c2⟩, cf⟩ := CS.out _ b1
        have T1 := Lib.hid (TS.out _ b1)
        clear cf CS HB TS RC HD b1
        go_wp2_with fail
        go_ret
        exact ⟨rfl, T1.out⟩
      | false =>
        by_cases hc : 0 ≤ d.cut ∧ d.cut < r.length
        · obtain ⟨e1, e2⟩ := wr_cut (s := r) ho hc
          rw [e1, e2]
          obtain ⟨hc1, hc2⟩ := hc
          obtain ⟨k, hk⟩ := Int.eq_ofNat_of_zero_le hc1
          have e3 : d.cut.toNat = k := by omega
          rw [e3]
          have FIN := Lib.hid (fun (w1 : World) (b : Below w.heap.size w w1) => show TTo w ((w1.setCell ⟨mt, 0, none⟩ (.string (bs d.b ++ bs (r.take k)))).setCell ⟨mt, 1, none⟩ (.bool true)) mt ⟨d.b ++ r.take k, true, d.cut⟩ from by
            rw [bs_add]
            have k1 := (HB.out w1 b).setB (d.b ++ r.take k)
            exact ((TS.out w1 b).trans k1).trans (k1.1.setOff true))
          have EX : (bs r).extract 0 k = bs (r.take k) := by rw [bs_take, bs_list]
          rw [ho, hk] at CS
          rw [hk] at hc2
          have y1 : (0 : Int) ≤ k := by omega
          have y2 : (k : Int) ≤ r.length := by omega
          have y3 : (k : Int).toNat = k := by omega
          have y4 : k ≤ r.length := by omega
          have hcat2 : ¬ 9223372036854775807 < d.b.length + k := by omega
          clear e1 e2 e3 hc1 hcut1 hcut2 hk ho
          go_enter Tryd.func9, Tryd.ntmps9
          go_wp2_with fail
          refine RC.out.mono ?_
          rintro e w1 ⟨rfl, b1⟩
          obtain ⟨⟨c0, c1, c2⟩, cf⟩ := CS.out _ b1
          have f0 := cf 0
          have f1 := cf 1
          have T1 := Lib.hid (FIN.out _ b1)
          clear cf CS HB TS RC HD b1 FIN
          go_wp2_with fail
          go_region
          all_goals
            go_wp2_with fail
            go_ret
            exact ⟨rfl, T1.out.drew⟩
        · by_cases hc3 : 0 ≤ d.cut
          · obtain ⟨e1, e2⟩ := wr_fit (s := r) ho hc hc3
            rw [e1, e2]
            have hcI : ¬ d.cut < (r.length : Int) := by omega
            have hw1 : IntKind.i64.wrap (d.cut - r.length) = d.cut - r.length := IntWalk.i64_in _ (by omega)
            have FIN := Lib.hid (fun (w1 : World) (b : Below w.heap.size w w1) => show TTo w ((w1.setCell ⟨mt, 2, none⟩ (.int .i64 (d.cut - r.length))).setCell ⟨mt, 0, none⟩ (.string (bs d.b ++ bs r))) mt ⟨d.b ++ r, d.off, d.cut - r.length⟩ from by
              rw [bs_add]
              have k1 := (HB.out w1 b).setCut (d.cut - r.length) (by omega)
              exact ((TS.out w1 b).trans k1).trans (k1.1.setB (d.b ++ r)))
            rw [ho] at CS FIN ⊢
            clear e1 e2 hc ho
            generalize d.cut = c at *
            go_enter Tryd.func9, Tryd.ntmps9
            go_wp2_with fail
            refine RC.out.mono ?_
            rintro e w1 ⟨rfl, b1⟩
            obtain ⟨⟨c0, c1, c2⟩, cf⟩ := CS.out _ b1
            have f0 := cf 0
            have f2 := cf 2
            have T1 := Lib.hid (FIN.out _ b1)
            clear cf CS HB TS RC HD b1
            go_wp2_with fail
            go_ret
            exact ⟨rfl, T1.out⟩
          · obtain ⟨e1, e2⟩ := wr_free (s := r) ho hc3
            rw [e1, e2]
            have hcI : d.cut < 0 := by omega
            have FIN := Lib.hid (fun (w1 : World) (b : Below w.heap.size w w1) => show TTo w (w1.setCell ⟨mt, 0, none⟩ (.string (bs d.b ++ bs r))) mt ⟨d.b ++ r, d.off, d.cut⟩ from by
              rw [bs_add]
              exact (TS.out w1 b).trans ((HB.out w1 b).setB (d.b ++ r)))
            rw [ho] at CS FIN ⊢
            clear e1 e2 hc ho hcut1 hcut2
            generalize d.cut = c at *
            go_enter Tryd.func9, Tryd.ntmps9
            go_wp2_with fail
            refine RC.out.mono ?_
            rintro e w1 ⟨rfl, b1⟩
            obtain ⟨⟨c0, c1, c2⟩, cf⟩ := CS.out _ b1
            have f0 := cf 0
            have T1 := Lib.hid (FIN.out _ b1)
            clear cf CS HB TS RC HD b1
            go_wp2_with fail
            go_ret
            exact ⟨rfl, T1.out⟩
set_option maxRecDepth 100000 in
set_option maxHeartbeats 6400000 in
theorem rtrec_any (mt : Nat) (d : TP) (w : World) (h : TD w mt d) (hb : d.b.length ≤ 100000000) :
    Calls Tryd.prog 14 #[.pointer (some ⟨mt, 0, none⟩)] w fun e w' => ∃ r, e = .returned r ∧ w'.ownsRow w.heap.size 9 1 r (readL d.b).1.length (strV (readL d.b).1) ∧ TTo w w' mt (rcT d) := by
  obtain ⟨⟨c0, c1, c2⟩, cf⟩ := h.cs
  have RT := Lib.hid (rreadtape_any d.b w (by omega))
  have CS := Lib.hid (fun (w' : World) (b : Below w.heap.size w w') => (h.below b).cs)
  have hl := readL_len d.b
  have hbz : (bs d.b).size = d.b.length := bs_size d.b
  have FIN := Lib.hid (fun (w1 : World) (b : Below w.heap.size w w1) => show TTo w (((w1.setCell ⟨mt, 0, none⟩ (.string (bs (d.b.take (readL d.b).2)))).setCell ⟨mt, 1, none⟩ (.bool false)).setCell ⟨mt, 2, none⟩ (.int .i64 (-1))) mt (rcT d) from by
    have k1 := (h.below b).setB (d.b.take (readL d.b).2)
    have k2 := k1.1.setOff false
    exact (((TTo.same h b).trans k1).trans k2).trans (k2.1.setCut (-1) (by decide)))
  have HLT := Lib.hid h.lt
  clear h cf c1 c2
  have EX : (bs d.b).extract 0 (readL d.b).2 = bs (d.b.take (readL d.b).2) := by rw [bs_take, bs_list]
  have y1 : (0 : Int) ≤ (readL d.b).2 := by omega
  have y2 : ((readL d.b).2 : Int) ≤ d.b.length := by omega
  have y3 : ((readL d.b).2 : Int).toNat = (readL d.b).2 := by omega
  generalize hR : readL d.b = R at *
  obtain ⟨rl, rn⟩ := R
  simp only at *
  go_enter Tryd.func14, Tryd.ntmps14
  go_wp2_with fail
  refine RT.out.mono ?_
  rintro e w1 ⟨v, rfl, ho, b1⟩
  obtain ⟨va, vc, rfl⟩ := owns_slice ho
  obtain ⟨⟨c0', c1, c2⟩, cf⟩ := CS.out _ b1
  have f0 := cf 0
  have f1 := cf 1
  have f2 := cf 2
  have T1 := Lib.hid (FIN.out _ b1)
  have HO := Lib.hid ho
  clear cf CS RT b1 ho c0 FIN
  go_wp2_with fail
  go_ret
  refine ⟨_, rfl, ?_, T1.out⟩
  have hlt := HLT.out
  exact ownsRow_setCell_below (ownsRow_setCell_below (ownsRow_setCell_below HO.out (a := ⟨mt, 0, none⟩) hlt _) (a := ⟨mt, 1, none⟩) hlt _) (a := ⟨mt, 2, none⟩) hlt _
end Go.Proofs.YtomaojpldinmgaaDoor
