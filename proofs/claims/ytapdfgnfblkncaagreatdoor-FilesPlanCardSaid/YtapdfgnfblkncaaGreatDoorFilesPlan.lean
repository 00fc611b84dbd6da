/- FilesPlan: lists, their texts and plans of package files are the document's: any lists, any text. -/
import Derived.Test.YtapdfgnfblkncaaGreatDoorRefPlanOf
import Derived.Test.YtapdfgnfblkncaaGreatDoorRefLnText
import Derived.Test.YtapdfgnfblkncaaGreatDoorRefReadLn
import Derived.Test.YtapdfgnfblkncaaGreatDoorFilPlan2
import Derived.Test.YtapdfgnfblkncaaGreatDoorFiled
import Derived.Test.YtapdfgnfblkncaaGreatDoorCode
import Derived.Test.YtapdfgnfblkncaaGreatDoorArgLin
namespace Go.Proofs.YtapdfgnfblkncaaGreatDoor
open Go.RowKit
set_option linter.unusedVariables false

theorem rlLoop_S : ∀ (f : Nat) (l : List UInt8) (c : Nat) (out : List PL), (∀ x ∈ out, x.S < 4294967296) → ∀ x ∈ (rlLoop f l c out).1, x.S < 4294967296
  | 0, l, c, out, h => by rw [rlLoop_end]; exact h
  | f + 1, l, c, out, h => by
    by_cases hc : c = 0
    · subst hc
      rw [rlLoop_step (by omega)]
      refine rlLoop_S f _ _ _ fun x hx => ?_
      rcases List.mem_append.1 hx with hx | hx
      · exact h x hx
      · rw [List.mem_singleton] at hx
        subst hx
        rw [rdLn_is l _ _ _ _ rfl rfl rfl rfl]
        exact Nat.mod_lt _ (by decide)
    · rw [rlLoop_err _ _ hc]; exact h
theorem readLn_S (L : List UInt8) : ∀ x ∈ (readLn L).1, x.S < 4294967296 := by
  have h0 := rl0_is (L := L) rfl rfl
  have hS := rlLoop_S (rnN L 0) (rnR L 0) (rnC L 0) [] (by simp)
  rw [← h0] at hS
  rcases hr : rl0 L with ⟨out, l, c⟩
  rw [hr] at hS
  by_cases he : rEnd l c = 0
  · by_cases hk : (lnFault out).1 = 0
    · rw [readLn_ok hr he hk]; exact hS
    · rw [readLn_bad hr he hk]; simp
  · rw [readLn_end hr he]; simp
theorem rdLn_code (l : List UInt8) : (rdLn l).2.2 ≤ 12 := by
  have a := tC_cases l
  have b := gC_cases (tR l)
  have c := gC_cases (gR (tR l))
  by_cases h0 : tC l = 0
  · by_cases h1 : gC (tR l) = 0
    · by_cases h2 : gC (gR (tR l)) = 0
      · rw [rdLn_all h0 rfl h1 rfl h2 rfl]; show (if _ then 1 else 0) ≤ 12; split <;> omega
      · rw [rdLn_e3 h0 rfl h1 rfl h2]; omega
    · rw [rdLn_e2 h0 rfl h1]; omega
  · rw [rdLn_e1 h0]; omega
theorem rlLoop_code : ∀ (f : Nat) (l : List UInt8) (c : Nat) (out : List PL), c ≤ 12 → (rlLoop f l c out).2.2 ≤ 12
  | 0, l, c, out, h => by rw [rlLoop_end]; exact h
  | f + 1, l, c, out, h => by
    by_cases hc : c = 0
    · subst hc; rw [rlLoop_step (by omega)]; exact rlLoop_code f _ _ _ (rdLn_code l)
    · rw [rlLoop_err _ _ hc]; exact h
theorem rEnd_leL (l : List UInt8) (c : Nat) (h : c ≤ 12) : rEnd l c ≤ 12 := by
  by_cases hc : c = 0
  · subst hc
    by_cases hl : l = []
    · subst hl; rw [rEnd_nil]; omega
    · rw [rEnd_some hl]; omega
  · rw [rEnd_err l hc]; exact h
theorem readLn_code (T : List UInt8) : (readLn T).2 ≤ 12 := by
  have a := gC_cases T
  by_cases h0 : gC T = 0
  · have hg := rl0_go h0 rfl
    have hcd := rlLoop_code (gN T) (gR T) 0 [] (by omega)
    rw [← hg] at hcd
    rcases hr : rl0 T with ⟨out, l, c⟩
    rw [hr] at hcd
    by_cases he : rEnd l c = 0
    · by_cases hk : (lnFault out).1 = 0
      · rw [readLn_ok hr he hk]; show 0 ≤ 12; omega
      · rw [readLn_bad hr he hk]; have := lnFault_le out; show (lnFault out).1 ≤ 12; omega
    · rw [readLn_end hr he]; exact rEnd_leL l c hcd
  · rw [rl0_e1 h0]; show gC T ≤ 12; omega
theorem planF2_le (A B : List PL) : (planF2 A B).1 ≤ 12 := by
  unfold planF2; split
  · exact lnFault_le _
  · exact lnFault_le _
theorem ferr_away {E : Nat → Addr} {w : World} {v : Value} {c : Nat} {a : Int} {g : Nat} {x y : Value} (h : FErr E w v c a) (hg : w.heap[g]? = some (Obj.cells #[x, y] 26 (0, 0))) (u u' : Value) :
    FErr E ((w.setCell ⟨g, 0, none⟩ u).setCell ⟨g, 1, none⟩ u') v c a := by
  rcases h with h | h | ⟨h1, h2, fb, h3, h4⟩
  · exact .inl h
  · exact .inr (.inl h)
  · exact .inr (.inr ⟨h1, h2, fb, h3, set2_away h4 (fun e => by
      subst e
      rw [hg] at h4
      injection h4 with h4
      injection h4 with _ h5 _
      exact absurd h5 (by decide)) u u'⟩)
/-- Text of any lines -/
def txtL (l : List PL) : List UInt8 := if (lnFault l).1 = 0 then flText l else []
theorem txt_any (E : Nat → Addr) (l : List PL) (v : Value) (w : World) (hl : SliceIs w v 3 (lcells l)) (hd : ∀ x ∈ l, x.n.length ≤ maxLen) (hS : ∀ b ∈ l, b.S < 4294967296) (hlen : l.length ≤ 1000000000) (hB : Has E w 2) (hN : Has E w 5) (hF : Has E w 8) (hO : Has E w 9) :
    Calls Tryz.prog 7 #[v] w fun e w' => ∃ r, e = .returned (.tuple #[.string (bs (txtL l)), r]) ∧ FErr E w' r (lnFault l).1 (lnFault l).2 ∧ Below w.heap.size w w' := by
  by_cases h : (lnFault l).1 = 0
  · have hz : lnFault l = (0, -1) := lnFault_zero h
    refine (fltext_yes E l v w hl hS hB hN hF hO ((lnFault_wf l).1 h)).mono ?_
    rintro e w' ⟨rfl, b⟩
    refine ⟨_, by unfold txtL; rw [if_pos h], ?_, b⟩
    rw [hz]; exact FErr.nil E w'
  · refine (fltext_no E l v w hl hd hlen hB hN hF hO h).mono ?_
    rintro e w' ⟨r, rfl, fe, b⟩
    exact ⟨r, by unfold txtL; rw [if_neg h], fe, b⟩
/-- Plan of any lists -/
theorem plan_bad (E : Nat → Addr) (a t : List PL) (v1 v2 : Value) (w : World) (h1 : SliceIs w v1 3 (lcells a)) (h2 : SliceIs w v2 3 (lcells t)) (d1 : ∀ x ∈ a, x.n.length ≤ maxLen) (d2 : ∀ x ∈ t, x.n.length ≤ maxLen) (l1 : a.length ≤ 1000000000) (l2 : t.length ≤ 1000000000) (hB : Has E w 2) (hN : Has E w 5) (hF : Has E w 8) (hO : Has E w 9) (hf : (planF2 a t).1 ≠ 0) :
    Calls Tryz.prog 15 #[v1, v2] w fun e w' => ∃ r, e = .returned (.tuple #[.slice none 0 0, r]) ∧ FErr E w' r (planF2 a t).1 (planF2 a t).2 ∧ Below w.heap.size w w' := by
  by_cases h : (lnFault a).1 = 0
  · rw [planF2_b h] at hf ⊢
    exact flplan_no2 E a t v1 v2 w h1 h2 d1 d2 l1 l2 hB hN hF hO h hf
  · rw [planF2_a h]
    exact flplan_no1 E a v1 v2 w h1 d1 l1 hB hN hF hO h
theorem planF2_zero {A B : List PL} (h : (planF2 A B).1 = 0) : LWF A ∧ LWF B := by
  by_cases hA : (lnFault A).1 = 0
  · rw [planF2_b hA] at h; exact ⟨(lnFault_wf A).1 hA, (lnFault_wf B).1 h⟩
  · rw [planF2_a hA] at h; exact absurd h hA
attribute [local irreducible] planF2 txtL

set_option maxRecDepth 100000 in
set_option maxHeartbeats 12800000 in
theorem filesPlan_walk (E : Nat → Addr) (s0 : Option Addr) (n0 c0 : Nat) (a0 : List PM) (s1 : Option Addr) (n1 c1 : Nat) (a1 : List PM) (a2 : ByteArray) (w : World) (hl0 : SliceIs w (.slice s0 n0 c0) PM.cells (a0.flatMap PM.vals) ∧ ∀ x ∈ a0, x.ok) (hl1 : SliceIs w (.slice s1 n1 c1) PM.cells (a1.flatMap PM.vals) ∧ ∀ x ∈ a1, x.ok) (hs2 : a2.size ≤ maxLen) (hh : Hand w) (h1 : ∀ c ∈ [1, 2, 3, 4, 5, 6, 7, 8, 9, 10, 11, 12], Has E w c ∧ Sent w (E c)) (h2 : ∀ c ∈ [1, 2, 3, 4, 5, 6, 7, 8, 9, 10, 11, 12], ∀ c' ∈ [1, 2, 3, 4, 5, 6, 7, 8, 9, 10, 11, 12], c ≠ c' → E c ≠ E c') :
    Calls Tryz.prog 3 #[.slice s0 n0 c0, .slice s1 n1 c1, .string a2] w fun e w' => e = .returned (.bool true) ∧ Below w.heap.size w w' := by
  obtain ⟨hl, hok⟩ := hl0
  obtain ⟨hm, hom⟩ := hl1
  rw [PM.vals_is] at hl hm
  have hl : SliceIs w (.slice s0 n0 c0) 3 (mcells a0) := hl
  have hm : SliceIs w (.slice s1 n1 c1) 3 (mcells a1) := hm
  have HE := Lib.hid (Errs.of hh h1 h2)
  have HOK := Lib.hid (show ∀ x ∈ a0, x.n.length ≤ maxLen from fun x hx => (hok x hx).1)
  have HOM := Lib.hid (show ∀ x ∈ a1, x.n.length ≤ maxLen from fun x hx => (hom x hx).1)
  obtain ⟨L, rfl⟩ : ∃ l, a2 = bs l := ⟨a2.data.toList, (bs_of a2).symm⟩
  have z2 : (bs L).size = L.length := bs_size _
  rw [z2] at hs2
  have HL := Lib.hid hl
  have HM := Lib.hid hm
  have H2 := Lib.hid (HE.out.has 2 (by omega) (by omega))
  have H5 := Lib.hid (HE.out.has 5 (by omega) (by omega))
  have H8 := Lib.hid (HE.out.has 8 (by omega) (by omega))
  have H9 := Lib.hid (HE.out.has 9 (by omega) (by omega))
  have H1 := Lib.hid (HE.out.has 1 (by omega) (by omega))
  have FO := Lib.hid (fun (w' : World) (b : Below w.heap.size w w') => filed_ok E w' (H2.out.below b) (H5.out.below b) (H8.out.below b) (H9.out.below b))
  have LO := Lib.hid (fun (w' : World) (b : Below w.heap.size w w') => longLines_any a0 _ w' (HL.out.below b) HOK.out)
  have LM := Lib.hid (fun (w' : World) (b : Below w.heap.size w w') => longLines_any a1 _ w' (HM.out.below b) HOM.out)
  have hx := longMN_bd a0
  have hy := longMN_bd a1
  generalize longMN a0 = X at *
  generalize longMN a1 = Y at *
  clear hl hm hok hom h1 h2 hh
  by_cases hXY : 0 < X + Y
  · have hX : X = 0 ∨ X = 1 := by omega
    have hY : Y = 0 ∨ Y = 1 := by omega
    clear hx hy
    go_enter Tryz.func3, Tryz.ntmps3
    go_wp2_with fail
    refine (FO.out _ (Below.refl _ _)).mono ?_
    rintro e w1 ⟨rfl, b1⟩
    go_wp2_with fail
    refine (LO.out _ b1).mono ?_
    rintro e w2 ⟨rfl, b2⟩
    have b02 := below_trans' b1 b2
    go_wp2_with fail
    refine (LM.out _ b02).mono ?_
    rintro e w3 ⟨rfl, b3⟩
    have b03 := below_trans' b02 b3
    clear b1 b2 b02 b3 FO LO LM
    rcases hX with rfl | rfl <;> rcases hY with rfl | rfl
    · exact absurd hXY (by decide)
    all_goals
      go_wp2_with fail
      go_ret
      exact ⟨rfl, b03⟩
  have hx : X = 0 ∧ longMB a0 = false := by
    rcases hx with h | ⟨h, _⟩
    · exact h
    · rcases hy with ⟨h', _⟩ | ⟨h', _⟩ <;> omega
  have hy : Y = 0 ∧ longMB a1 = false := by
    rcases hy with h | ⟨h, _⟩
    · exact h
    · omega
  obtain ⟨rfl, hLF⟩ := hx
  obtain ⟨rfl, hLG⟩ := hy
  obtain ⟨h25, hea⟩ := longMB_no hLF
  obtain ⟨h26, heb⟩ := longMB_no hLG
  clear hXY hLF hLG
  by_cases h5 : 500 < L.length
  · have hI : (500 : Int) < L.length := by omega
    go_enter Tryz.func3, Tryz.ntmps3
    go_wp2_with fail
    refine (FO.out _ (Below.refl _ _)).mono ?_
    rintro e w1 ⟨rfl, b1⟩
    go_wp2_with fail
    refine (LO.out _ b1).mono ?_
    rintro e w2 ⟨rfl, b2⟩
    have b02 := below_trans' b1 b2
    go_wp2_with fail
    refine (LM.out _ b02).mono ?_
    rintro e w3 ⟨rfl, b3⟩
    have b03 := below_trans' b02 b3
    go_wp2_with fail
    go_ret
    exact ⟨rfl, b03⟩
  have hI : ¬ (500 : Int) < L.length := by omega
  have EA := Lib.hid (show ∀ x ∈ a0, x.ok32 from fun x hx => (hea x hx).2)
  have EB := Lib.hid (show ∀ x ∈ a1, x.ok32 from fun x hx => (heb x hx).2)
  have NA := Lib.hid (show ∀ x ∈ a0, x.n.length ≤ 1000000000 from fun x hx => by have := (hea x hx).1; omega)
  have NB := Lib.hid (show ∀ x ∈ a1, x.n.length ≤ 1000000000 from fun x hx => by have := (heb x hx).1; omega)
  have la : (a0.map PM.pl).length ≤ 25 := by rw [List.length_map]; exact h25
  have lb : (a1.map PM.pl).length ≤ 25 := by rw [List.length_map]; exact h26
  have DA := Lib.hid (show ∀ x ∈ a0.map PM.pl, x.n.length ≤ maxLen from fun x hx => by obtain ⟨y, hy, rfl⟩ := List.mem_map.1 hx; exact HOK.out y hy)
  have DB := Lib.hid (show ∀ x ∈ a1.map PM.pl, x.n.length ≤ maxLen from fun x hx => by obtain ⟨y, hy, rfl⟩ := List.mem_map.1 hx; exact HOM.out y hy)
  have SA := Lib.hid (show ∀ x ∈ a0.map PM.pl, x.S < 4294967296 from fun x hx => by obtain ⟨y, hy, rfl⟩ := List.mem_map.1 hx; obtain ⟨q1, q2⟩ := EA.out y hy; show y.S.toNat < _; omega)
  have FF := fun (w' : World) (b : Below w.heap.size w w') => linesFault_any a0 _ w' (HL.out.below b) NA.out
  simp only [rfv_is] at FF
  have HFF := Lib.hid FF
  have AA := Lib.hid (fun (w' : World) (b : Below w.heap.size w w') => asLines_any a0 _ w' (HL.out.below b) EA.out (by omega))
  have AB := Lib.hid (fun (w' : World) (b : Below w.heap.size w w') => asLines_any a1 _ w' (HM.out.below b) EB.out (by omega))
  have TX := Lib.hid (fun v (w' : World) (b : Below w.heap.size w w') h => txt_any E (a0.map PM.pl) v w' h DA.out SA.out (by omega) (H2.out.below b) (H5.out.below b) (H8.out.below b) (H9.out.below b))
  have LT := Lib.hid (fun (w' : World) (b : Below w.heap.size w w') (h : LWF (a0.map PM.pl)) => rlinestext_any a0 _ w' (HL.out.below b) EA.out h)
  have RD0 := fun (w' : World) (b : Below w.heap.size w w') => flread_any E (bs L) w' (by rw [z2]; omega) (H1.out.below b) (H2.out.below b) (H5.out.below b) (H8.out.below b) (H9.out.below b)
  simp only [bs_list] at RD0
  have RD := Lib.hid RD0
  clear RD0
  have RL := Lib.hid (fun (w' : World) => rreadlines_any L w' (by omega))
  have CD := Lib.hid (fun (w' : World) (b : Below w.heap.size w w') => coded_ev E (readLn L).2 w' (HE.out.below b) (readLn_code L))
  have SLN := Lib.hid (fun (r1 r2 : Value) (w' : World) h1 h2 => sameLines_yes (readLn L).1 r1 r2 w' h1 h2 (readLn_S L))
  have p12 := planF2_le (a0.map PM.pl) (a1.map PM.pl)
  have f12 := lnFault_le (a0.map PM.pl)
  have PX := Lib.hid (fun v1 v2 (w' : World) (b : Below w.heap.size w w') h1 h2 (hf : (planF2 (a0.map PM.pl) (a1.map PM.pl)).1 ≠ 0) => plan_bad E (a0.map PM.pl) (a1.map PM.pl) v1 v2 w' h1 h2 DA.out DB.out (by omega) (by omega) (H2.out.below b) (H5.out.below b) (H8.out.below b) (H9.out.below b) hf)
  have PY := Lib.hid (fun v1 v2 (w' : World) (b : Below w.heap.size w w') h1 h2 (hf : (planF2 (a0.map PM.pl) (a1.map PM.pl)).1 = 0) => flplan_yes E (a0.map PM.pl) (a1.map PM.pl) v1 v2 w' h1 h2 (planF2_zero hf).1 (planF2_zero hf).2 (H2.out.below b) (H5.out.below b) (H8.out.below b) (H9.out.below b))
  have QX := fun (w' : World) (b : Below w.heap.size w w') (hf : (planF2 (a0.map PM.pl) (a1.map PM.pl)).1 ≠ 0) => planOf_bad a0 a1 _ _ w' (HL.out.below b) (HM.out.below b) NA.out NB.out hf
  have QY := fun (w' : World) (b : Below w.heap.size w w') (hf : (planF2 (a0.map PM.pl) (a1.map PM.pl)).1 = 0) => planOf_ok a0 a1 _ _ w' (HL.out.below b) (HM.out.below b) EA.out EB.out (planF2_zero hf).1 (planF2_zero hf).2
  simp only [rfv_is] at QX QY
  have HQX := Lib.hid QX
  have HQY := Lib.hid QY
  have WFA := Lib.hid (lnFault_wf (a0.map PM.pl))
  have TXA := Lib.hid (show (lnFault (a0.map PM.pl)).1 = 0 → txtL (a0.map PM.pl) = flText (a0.map PM.pl) from fun h => by unfold txtL; rw [if_pos h])
  have TXB := Lib.hid (show (lnFault (a0.map PM.pl)).1 ≠ 0 → txtL (a0.map PM.pl) = [] from fun h => by unfold txtL; rw [if_neg h])
  generalize lnFault (a0.map PM.pl) = f at *
  generalize planF2 (a0.map PM.pl) (a1.map PM.pl) = q at *
  clear FF QX QY hea heb la lb
  go_enter Tryz.func3, Tryz.ntmps3
  go_wp2_with fail
  refine (FO.out _ (Below.refl _ _)).mono ?_
  rintro e w1 ⟨rfl, b1⟩
  go_wp2_with fail
  refine (LO.out _ b1).mono ?_
  rintro e w2 ⟨rfl, b2⟩
  have b02 := below_trans' b1 b2
  go_wp2_with fail
  refine (LM.out _ b02).mono ?_
  rintro e w3 ⟨rfl, b3⟩
  have b03 := below_trans' b02 b3
  clear b1 b2 b02 b3 FO LO LM
  go_wp2_with fail
  refine (HFF.out _ b03).mono ?_
  rintro e w4 ⟨rfl, b4⟩
  have b04 := below_trans' b03 b4
  have hy := heap_alloc_new w4 (.cells #[.int .i64 f.1, .int .i64 f.2] 26)
  have b05 := b04.alloc b04.size (.cells #[.int .i64 f.1, .int .i64 f.2] 26)
  have hgw : w.heap.size ≤ w4.heap.size := b04.size
  clear b03 b4 b04 HFF
  go_wp2_with fail
  generalize w4.alloc (.cells #[.int .i64 f.1, .int .i64 f.2] 26) = w5 at *
  generalize w4.heap.size = g at *
  refine (AA.out _ b05).mono ?_
  rintro e w6 ⟨r6, rfl, o6, b6⟩
  have b06 := below_trans' b05 b6
  have hy6 := (b6.block g (lt_of_block hy)).trans hy
  have S6 := Lib.hid (SliceIs.ownedK o6)
  clear b05 b6 o6 hy
  go_wp2_with fail
  refine (TX.out _ _ b06 S6.out).mono ?_
  rintro e w7 ⟨r7, rfl, fe7, b7⟩
  have b07 := below_trans' b06 b7
  have hy7 := (b7.block g (lt_of_block hy6)).trans hy6
  have FE7 := Lib.hid fe7
  have c0 : w7.cell? ⟨g, 0, none⟩ = some (.int .i64 f.1) := by simp [World.cell?, hy7]
  have c1 : w7.cell? ⟨g, 1, none⟩ = some (.int .i64 f.2) := by simp [World.cell?, hy7]
  clear b06 b7 hy6 S6 TX
  by_cases hf : f.1 = 0
  · have hfI : ¬ (0 : Int) < f.1 := by omega
    have LW := WFA.out.1 hf
    have LT2 := Lib.hid (fun w' b => LT.out w' b LW)
    have fz := FE7.out
    rw [hf] at fz
    obtain rfl := fz.zero
    rw [TXA.out hf]
    clear fz LW LT FE7 hf TXA TXB WFA
    go_wp2_with fail
    refine (LT2.out _ b07).mono ?_
    rintro e w8 ⟨rfl, b8⟩
    have b08 := below_trans' b07 b8
    have hy8 := (b8.block g (lt_of_block hy7)).trans hy7
    clear b07 b8 hy7 c0 c1 LT2
    go_wp2_with fail
    refine (RD.out _ b08).mono ?_
    rintro e wr ⟨rx, rfl, ox, br⟩
    have b0r := below_trans' b08 br
    have hyr := (br.block g (lt_of_block hy8)).trans hy8
    have SX := Lib.hid (SliceIs.ownedK ox)
    clear b08 br hy8 ox RD
    go_wp2_with fail
    refine (RL.out _).mono ?_
    rintro e ws ⟨ry, rfl, sy, bs'⟩
    have b0s := below_trans' b0r bs'
    have hys := (bs'.block g (lt_of_block hyr)).trans hyr
    have SXs := Lib.hid (SX.out.below bs')
    have SY := Lib.hid sy
    clear b0r bs' hyr sy SX RL
    go_wp2_with fail
    refine (CD.out _ b0s).mono ?_
    rintro e wt ⟨rfl, bt⟩
    have b0t := below_trans' b0s bt
    have hyt := (bt.block g (lt_of_block hys)).trans hys
    have SXt := Lib.hid (SXs.out.below bt)
    have SYt := Lib.hid (SY.out.below bt)
    clear b0s bt hys SXs SY CD
    go_wp2_with fail
    refine (SLN.out _ _ _ SXt.out SYt.out).mono ?_
    rintro e wu ⟨rfl, mu, rfl⟩
    have b0u := below_drewN b0t mu
    have hyu : (wt.drewN mu).heap[g]? = some (.cells #[.int .i64 f.1, .int .i64 f.2] 26 (0, 0)) := hyt
    generalize wt.drewN mu = wu at *
    clear b0t hyt SXt SYt SLN
    go_wp2_with fail
    refine (AA.out _ b0u).mono ?_
    rintro e wv ⟨ra, rfl, oa, bv⟩
    have b0v := below_trans' b0u bv
    have hyv := (bv.block g (lt_of_block hyu)).trans hyu
    have SA1 := Lib.hid (SliceIs.ownedK oa)
    clear b0u bv hyu oa AA
    go_wp2_with fail
    refine (AB.out _ b0v).mono ?_
    rintro e wx ⟨rb, rfl, ob, bx⟩
    have b0x := below_trans' b0v bx
    have hyx := (bx.block g (lt_of_block hyv)).trans hyv
    have SA2 := Lib.hid (SA1.out.below bx)
    have SB2 := Lib.hid (SliceIs.ownedK ob)
    have hgx := lt_of_block hyx
    clear b0v bx hyv ob AB SA1
    by_cases hq : q.1 = 0
    · have PY2 := PY.out _ _ _ b0x SA2.out SB2.out hq
      have QY2 := fun w' b => HQY.out w' b hq
      generalize planL (a0.map PM.pl) (a1.map PM.pl) = P at *
      have HPY := Lib.hid PY2
      have HQ2 := Lib.hid QY2
      clear PY2 QY2 PX PY HQX HQY hq
      go_wp2_with fail
      refine HPY.out.mono ?_
      rintro e wy ⟨rp, rfl, op, by'⟩
      have b0y := below_trans' b0x by'
      have hyy := (by'.block g (lt_of_block hyx)).trans hyx
      have OPy := Lib.hid op
      have KP := Lib.hid (show rp.ownBlock ≠ some g from fun e => by have := (op.lt _ e).1; omega)
      have hgy := lt_of_block hyy
      obtain ⟨vp, vq, rfl⟩ := owns_slice op
      clear b0x by' hyx op HPY SA2 SB2
      go_wp2_with fail
      refine (HQ2.out _ b0y).mono ?_
      rintro e wz ⟨rq, rfl, oq, bz⟩
      have b0z := below_trans' b0y bz
      have hyz := (bz.block g (lt_of_block hyy)).trans hyy
      have OPz := Lib.hid (owns_below OPy.out bz)
      have KQ := Lib.hid (show rq.ownBlock ≠ some g from fun e => by have := (oq.lt _ e).1; omega)
      obtain ⟨vr, vs, rfl⟩ := owns_slice oq
      have SP := Lib.hid (SliceIs.ownedK (ownsRow_setCell_other (ownsRow_setCell_other OPz.out (a := ⟨g, 0, none⟩) KP.out (.int .i64 0)) (a := ⟨g, 1, none⟩) KP.out (.int .i64 (-1))))
      have SQ := Lib.hid (SliceIs.ownedK (ownsRow_setCell_other (ownsRow_setCell_other oq (a := ⟨g, 0, none⟩) KQ.out (.int .i64 0)) (a := ⟨g, 1, none⟩) KQ.out (.int .i64 (-1))))
      have b09 := (b0z.setCell (p := ⟨g, 0, none⟩) hgw (.int .i64 0)).setCell (p := ⟨g, 1, none⟩) hgw (.int .i64 (-1))
      have f0 : wz.frozen? ⟨g, 0, none⟩ = false := by simp [World.frozen?, hyz]
      have f1 : wz.frozen? ⟨g, 1, none⟩ = false := by simp [World.frozen?, hyz]
      have e0 : wz.cell? ⟨g, 0, none⟩ = some (.int .i64 f.1) := by simp [World.cell?, hyz]
      have e1 : wz.cell? ⟨g, 1, none⟩ = some (.int .i64 f.2) := by simp [World.cell?, hyz]
      obtain ⟨r0, r1⟩ := set2 hyz (.int .i64 0) (.int .i64 (-1))
      have mp := (steps_len SP.out).2
      have mq := (steps_len SQ.out).2
      unfold maxLen at mp mq
      clear b0y bz hyy b0z hyz oq OPy OPz HQ2
      go_wp2_with fail
      generalize (wz.setCell ⟨g, 0, none⟩ (.int .i64 0)).setCell ⟨g, 1, none⟩ (.int .i64 (-1)) = w9 at *
      go_loopw [16] (fun i wr => ∃ k : Nat, i = .int .i64 k ∧ k ≤ P.length ∧ Below w9.heap.size w9 wr) (fun i _ => P.length - (intOf i).toNat)
      case atStart => exact ⟨0, rfl, by omega, Below.refl _ _⟩
      case round =>
        clear f0 f1 e0 e1 r0 r1
        obtain ⟨k, rfl, hk, bel⟩ := hrel
        by_cases hlt : k < P.length
        · have hltI : (k : Int) < P.length := by omega
          obtain ⟨s', n', c', qq, _, _, _, g1⟩ := (SP.out.below bel).get
          cases qq
          obtain ⟨ad, rfl, dx⟩ := g1 _ _ (scells_get P k hlt).1
          clear dx g1
          obtain ⟨s', n', c', qq, _, _, _, g1⟩ := (SQ.out.below bel).get
          cases qq
          obtain ⟨ae, rfl, dx⟩ := g1 _ _ (scells_get P k hlt).1
          clear dx g1
          obtain ⟨d0, d1⟩ := step_cells (SP.out.below bel) hlt
          obtain ⟨e0, e1⟩ := step_cells (SQ.out.below bel) hlt
          have y1 : (0 : Int) ≤ k := by omega
          have y2 : (k : Int).toNat = k := by omega
          generalize P[k]'hlt = x at d0 d1 e0 e1
          have KK := Lib.hid (show k + 1 ≤ P.length from hlt)
          have BW := Lib.hid bel
          clear bel
          go_wp2_with fail
          go_quiet (fail)
          go_wp2_with fail
          go_roundw
          case rel => exact ⟨k + 1, by go_num, KK.out, below_drewN BW.out _⟩
          case measure => simp [intOf]; omega
        · have hltI : ¬ (k : Int) < P.length := by omega
          go_wp2_with fail
          go_ret
          exact ⟨rfl, below_trans' b09 bel⟩
    · have PX2 := Lib.hid (PX.out _ _ _ b0x SA2.out SB2.out hq)
      have QX2 := Lib.hid (fun w' b => HQX.out w' b hq)
      have hqI : (0 : Int) < q.1 := by omega
      clear PX PY HQX HQY hq
      go_wp2_with fail
      refine PX2.out.mono ?_
      rintro e wy ⟨rp, rfl, fe, by'⟩
      have b0y := below_trans' b0x by'
      have hyy := (by'.block g (lt_of_block hyx)).trans hyx
      have FEy := Lib.hid fe
      clear b0x by' hyx fe PX2 SA2 SB2
      go_wp2_with fail
      refine (QX2.out _ b0y).mono ?_
      rintro e wz ⟨rfl, bz⟩
      have b0z := below_trans' b0y bz
      have hyz := (bz.block g (lt_of_block hyy)).trans hyy
      have FE9 := Lib.hid (ferr_away (FEy.out.below bz) hyz (.int .i64 q.1) (.int .i64 q.2))
      have b09 := (b0z.setCell (p := ⟨g, 0, none⟩) hgw (.int .i64 q.1)).setCell (p := ⟨g, 1, none⟩) hgw (.int .i64 q.2)
      have f0 : wz.frozen? ⟨g, 0, none⟩ = false := by simp [World.frozen?, hyz]
      have f1 : wz.frozen? ⟨g, 1, none⟩ = false := by simp [World.frozen?, hyz]
      have e0 : wz.cell? ⟨g, 0, none⟩ = some (.int .i64 f.1) := by simp [World.cell?, hyz]
      have e1 : wz.cell? ⟨g, 1, none⟩ = some (.int .i64 f.2) := by simp [World.cell?, hyz]
      obtain ⟨r0, r1⟩ := set2 hyz (.int .i64 q.1) (.int .i64 q.2)
      clear b0y bz hyy b0z hyz FEy QX2
      go_wp2_with fail
      generalize (wz.setCell ⟨g, 0, none⟩ (.int .i64 q.1)).setCell ⟨g, 1, none⟩ (.int .i64 q.2) = w9 at *
      refine (faulted_yes E rp q.1 q.2 _ FE9.out (HE.out.below b09) p12).mono ?_
      rintro e wl ⟨rfl, bl⟩
      have cl := below_trans' b09 bl
      go_wp2_with fail
      go_ret
      exact ⟨rfl, cl⟩
  · have hfI : (0 : Int) < f.1 := by omega
    rw [TXB.out hf, bs_nil]
    clear LT hf TXA TXB WFA
    go_wp2_with fail
    refine (faulted_yes E r7 f.1 f.2 _ FE7.out (HE.out.below b07) f12).mono ?_
    rintro e w8 ⟨rfl, b8⟩
    have b08 := below_trans' b07 b8
    have hy8 := (b8.block g (lt_of_block hy7)).trans hy7
    clear b07 b8 hy7 c0 c1 FE7
    go_wp2_with fail
    refine (RD.out _ b08).mono ?_
    rintro e wr ⟨rx, rfl, ox, br⟩
    have b0r := below_trans' b08 br
    have hyr := (br.block g (lt_of_block hy8)).trans hy8
    have SX := Lib.hid (SliceIs.ownedK ox)
    clear b08 br hy8 ox RD
    go_wp2_with fail
    refine (RL.out _).mono ?_
    rintro e ws ⟨ry, rfl, sy, bs'⟩
    have b0s := below_trans' b0r bs'
    have hys := (bs'.block g (lt_of_block hyr)).trans hyr
    have SXs := Lib.hid (SX.out.below bs')
    have SY := Lib.hid sy
    clear b0r bs' hyr sy SX RL
    go_wp2_with fail
    refine (CD.out _ b0s).mono ?_
    rintro e wt ⟨rfl, bt⟩
    have b0t := below_trans' b0s bt
    have hyt := (bt.block g (lt_of_block hys)).trans hys
    have SXt := Lib.hid (SXs.out.below bt)
    have SYt := Lib.hid (SY.out.below bt)
    clear b0s bt hys SXs SY CD
    go_wp2_with fail
    refine (SLN.out _ _ _ SXt.out SYt.out).mono ?_
    rintro e wu ⟨rfl, mu, rfl⟩
    have b0u := below_drewN b0t mu
    have hyu : (wt.drewN mu).heap[g]? = some (.cells #[.int .i64 f.1, .int .i64 f.2] 26 (0, 0)) := hyt
    generalize wt.drewN mu = wu at *
    clear b0t hyt SXt SYt SLN
    go_wp2_with fail
    refine (AA.out _ b0u).mono ?_
    rintro e wv ⟨ra, rfl, oa, bv⟩
    have b0v := below_trans' b0u bv
    have hyv := (bv.block g (lt_of_block hyu)).trans hyu
    have SA1 := Lib.hid (SliceIs.ownedK oa)
    clear b0u bv hyu oa AA
    go_wp2_with fail
    refine (AB.out _ b0v).mono ?_
    rintro e wx ⟨rb, rfl, ob, bx⟩
    have b0x := below_trans' b0v bx
    have hyx := (bx.block g (lt_of_block hyv)).trans hyv
    have SA2 := Lib.hid (SA1.out.below bx)
    have SB2 := Lib.hid (SliceIs.ownedK ob)
    have hgx := lt_of_block hyx
    clear b0v bx hyv ob AB SA1
    by_cases hq : q.1 = 0
    · have PY2 := PY.out _ _ _ b0x SA2.out SB2.out hq
      have QY2 := fun w' b => HQY.out w' b hq
      generalize planL (a0.map PM.pl) (a1.map PM.pl) = P at *
      have HPY := Lib.hid PY2
      have HQ2 := Lib.hid QY2
      clear PY2 QY2 PX PY HQX HQY hq
      go_wp2_with fail
      refine HPY.out.mono ?_
      rintro e wy ⟨rp, rfl, op, by'⟩
      have b0y := below_trans' b0x by'
      have hyy := (by'.block g (lt_of_block hyx)).trans hyx
      have OPy := Lib.hid op
      have KP := Lib.hid (show rp.ownBlock ≠ some g from fun e => by have := (op.lt _ e).1; omega)
      have hgy := lt_of_block hyy
      obtain ⟨vp, vq, rfl⟩ := owns_slice op
      clear b0x by' hyx op HPY SA2 SB2
      go_wp2_with fail
      refine (HQ2.out _ b0y).mono ?_
      rintro e wz ⟨rq, rfl, oq, bz⟩
      have b0z := below_trans' b0y bz
      have hyz := (bz.block g (lt_of_block hyy)).trans hyy
      have OPz := Lib.hid (owns_below OPy.out bz)
      have KQ := Lib.hid (show rq.ownBlock ≠ some g from fun e => by have := (oq.lt _ e).1; omega)
      obtain ⟨vr, vs, rfl⟩ := owns_slice oq
      have SP := Lib.hid (SliceIs.ownedK (ownsRow_setCell_other (ownsRow_setCell_other OPz.out (a := ⟨g, 0, none⟩) KP.out (.int .i64 0)) (a := ⟨g, 1, none⟩) KP.out (.int .i64 (-1))))
      have SQ := Lib.hid (SliceIs.ownedK (ownsRow_setCell_other (ownsRow_setCell_other oq (a := ⟨g, 0, none⟩) KQ.out (.int .i64 0)) (a := ⟨g, 1, none⟩) KQ.out (.int .i64 (-1))))
      have b09 := (b0z.setCell (p := ⟨g, 0, none⟩) hgw (.int .i64 0)).setCell (p := ⟨g, 1, none⟩) hgw (.int .i64 (-1))
      have f0 : wz.frozen? ⟨g, 0, none⟩ = false := by simp [World.frozen?, hyz]
      have f1 : wz.frozen? ⟨g, 1, none⟩ = false := by simp [World.frozen?, hyz]
      have e0 : wz.cell? ⟨g, 0, none⟩ = some (.int .i64 f.1) := by simp [World.cell?, hyz]
      have e1 : wz.cell? ⟨g, 1, none⟩ = some (.int .i64 f.2) := by simp [World.cell?, hyz]
      obtain ⟨r0, r1⟩ := set2 hyz (.int .i64 0) (.int .i64 (-1))
      have mp := (steps_len SP.out).2
      have mq := (steps_len SQ.out).2
      unfold maxLen at mp mq
      clear b0y bz hyy b0z hyz oq OPy OPz HQ2
      go_wp2_with fail
      generalize (wz.setCell ⟨g, 0, none⟩ (.int .i64 0)).setCell ⟨g, 1, none⟩ (.int .i64 (-1)) = w9 at *
      go_loopw [16] (fun i wr => ∃ k : Nat, i = .int .i64 k ∧ k ≤ P.length ∧ Below w9.heap.size w9 wr) (fun i _ => P.length - (intOf i).toNat)
      case atStart => exact ⟨0, rfl, by omega, Below.refl _ _⟩
      case round =>
        clear f0 f1 e0 e1 r0 r1
        obtain ⟨k, rfl, hk, bel⟩ := hrel
        by_cases hlt : k < P.length
        · have hltI : (k : Int) < P.length := by omega
          obtain ⟨s', n', c', qq, _, _, _, g1⟩ := (SP.out.below bel).get
          cases qq
          obtain ⟨ad, rfl, dx⟩ := g1 _ _ (scells_get P k hlt).1
          clear dx g1
          obtain ⟨s', n', c', qq, _, _, _, g1⟩ := (SQ.out.below bel).get
          cases qq
          obtain ⟨ae, rfl, dx⟩ := g1 _ _ (scells_get P k hlt).1
          clear dx g1
          obtain ⟨d0, d1⟩ := step_cells (SP.out.below bel) hlt
          obtain ⟨e0, e1⟩ := step_cells (SQ.out.below bel) hlt
          have y1 : (0 : Int) ≤ k := by omega
          have y2 : (k : Int).toNat = k := by omega
          generalize P[k]'hlt = x at d0 d1 e0 e1
          have KK := Lib.hid (show k + 1 ≤ P.length from hlt)
          have BW := Lib.hid bel
          clear bel
          go_wp2_with fail
          go_quiet (fail)
          go_wp2_with fail
          go_roundw
          case rel => exact ⟨k + 1, by go_num, KK.out, below_drewN BW.out _⟩
          case measure => simp [intOf]; omega
        · have hltI : ¬ (k : Int) < P.length := by omega
          go_wp2_with fail
          go_ret
          exact ⟨rfl, below_trans' b09 bel⟩
    · have PX2 := Lib.hid (PX.out _ _ _ b0x SA2.out SB2.out hq)
      have QX2 := Lib.hid (fun w' b => HQX.out w' b hq)
      have hqI : (0 : Int) < q.1 := by omega
      clear PX PY HQX HQY hq
      go_wp2_with fail
      refine PX2.out.mono ?_
      rintro e wy ⟨rp, rfl, fe, by'⟩
      have b0y := below_trans' b0x by'
      have hyy := (by'.block g (lt_of_block hyx)).trans hyx
      have FEy := Lib.hid fe
      clear b0x by' hyx fe PX2 SA2 SB2
      go_wp2_with fail
      refine (QX2.out _ b0y).mono ?_
      rintro e wz ⟨rfl, bz⟩
      have b0z := below_trans' b0y bz
      have hyz := (bz.block g (lt_of_block hyy)).trans hyy
      have FE9 := Lib.hid (ferr_away (FEy.out.below bz) hyz (.int .i64 q.1) (.int .i64 q.2))
      have b09 := (b0z.setCell (p := ⟨g, 0, none⟩) hgw (.int .i64 q.1)).setCell (p := ⟨g, 1, none⟩) hgw (.int .i64 q.2)
      have f0 : wz.frozen? ⟨g, 0, none⟩ = false := by simp [World.frozen?, hyz]
      have f1 : wz.frozen? ⟨g, 1, none⟩ = false := by simp [World.frozen?, hyz]
      have e0 : wz.cell? ⟨g, 0, none⟩ = some (.int .i64 f.1) := by simp [World.cell?, hyz]
      have e1 : wz.cell? ⟨g, 1, none⟩ = some (.int .i64 f.2) := by simp [World.cell?, hyz]
      obtain ⟨r0, r1⟩ := set2 hyz (.int .i64 q.1) (.int .i64 q.2)
      clear b0y bz hyy b0z hyz FEy QX2
      go_wp2_with fail
      generalize (wz.setCell ⟨g, 0, none⟩ (.int .i64 q.1)).setCell ⟨g, 1, none⟩ (.int .i64 q.2) = w9 at *
      refine (faulted_yes E rp q.1 q.2 _ FE9.out (HE.out.below b09) p12).mono ?_
      rintro e wl ⟨rfl, bl⟩
      have cl := below_trans' b09 bl
      go_wp2_with fail
      go_ret
      exact ⟨rfl, cl⟩
end Go.Proofs.YtapdfgnfblkncaaGreatDoor
