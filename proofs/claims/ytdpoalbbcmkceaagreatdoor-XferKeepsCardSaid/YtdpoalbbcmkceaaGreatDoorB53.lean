/- Texts of one proof, one behind the other: XferAll, XferKeeps, XferSame. -/
import Derived.Test.YtdpoalbbcmkceaaGreatDoorB46
import Derived.Test.YtdpoalbbcmkceaaGreatDoorB50
import Derived.Test.YtdpoalbbcmkceaaGreatDoorB47
import Derived.Test.YtdpoalbbcmkceaaGreatDoorB51
import Derived.Test.YtdpoalbbcmkceaaGreatDoorB08
import Derived.OpenShut
import Derived.Test.YtdpoalbbcmkceaaGreatDoorB52
import Derived.Test.YtdpoalbbcmkceaaGreatDoorB04
import Derived.Test.YtdpoalbbcmkceaaGreatDoorB37
import Derived.Test.YtdpoalbbcmkceaaGreatDoorB39
/- A transfer's contracts together, for a law's walk: one state, all deeds. -/
namespace Go.Proofs.YtdpoalbbcmkceaaGreatDoor
open Go.RowKit
set_option linter.unusedVariables false
theorem xerr_of {E : Nat → Addr} {w : World} (h : Errs E w) : XErr E w := ⟨h.has 1 (by omega) (by omega), h.has 2 (by omega) (by omega), h.has 3 (by omega) (by omega), h.has 4 (by omega) (by omega), h.has 5 (by omega) (by omega), h.has 6 (by omega) (by omega), h.has 8 (by omega) (by omega), h.has 9 (by omega) (by omega), h.has 10 (by omega) (by omega), h.has 11 (by omega) (by omega)⟩
theorem small_of {l : List PF} (h : FWF l) (hs : ∀ f ∈ l, f.d.length ≤ 100 ∨ f.d.length = 4001) : Small l := ⟨h, fun f hf => by have := hs f hf; have := (h.each f hf).2; omega⟩
theorem flFault_le' (l : List PF) : (flFault l).1 ≤ 12 := by unfold flFault; exact lnFault_le _
section
variable {E : Nat → Addr} {w0 w : World} {xb : Nat} {A : XA} {x : XS} {t0 : List PF}
/-- a transfer of files fr onto files t0, after k deeds -/
structure XOk (E : Nat → Addr) (w0 w : World) (xb : Nat) (fr t0 : List PF) (x : XS) (k m : Nat) : Prop where
  at' : ∃ A, XAt w0 w xb A x
  inv : XInv t0 x
  fr : x.fr = fr
  ge : x.ge ≤ 1 + k
  net : x.net.length ≤ 1 + k + m
  err : XErr E w0
  bel : Below w0.heap.size w0 w
variable {fr : List PF} {k m : Nat}
theorem XOk.below (h : XOk E w0 w xb fr t0 x k m) {w' : World} (b : Below w.heap.size w w') : XOk E w0 w' xb fr t0 x k m := by
  obtain ⟨⟨A, hA⟩, h2, h3, h4, h5, h6, h7⟩ := h
  exact ⟨⟨A, hA.below b⟩, h2, h3, h4, h5, h6, below_trans' h7 b⟩
theorem xok_new (fr t : List PF) (v1 v2 : Value) (w : World) (h1 : SliceIs w v1 2 (fcells fr)) (h2 : SliceIs w v2 2 (fcells t)) (hf : Small fr) (ht : Small t) (HE : XErr E w) :
    Calls Tryz.prog 7 #[v1, v2] w fun e w' => ∃ xb x, e = .returned (.tuple #[.pointer (some ⟨xb, 0, none⟩), .nilIface]) ∧ XOk E w w' xb fr t x 0 0 := by
  refine (xnew_any (E := E) fr t v1 v2 w h1 h2 hf.wf ht.wf HE.e2 HE.e4 HE.e5 HE.e8 HE.e9).mono ?_
  rintro e w' ⟨xb, A, rfl, hA⟩
  obtain ⟨s1, s2, s3, s4⟩ := start_inv hf ht
  exact ⟨xb, _, rfl, ⟨A, hA⟩, s1, s2, by omega, by omega, HE, hA.rest.bel⟩
theorem xok_do (v : Int) (hv : (Lit.int .i64 v).wf = true) (h : XOk E w0 w xb fr t0 x k m) (hk : k ≤ 1000) (hm : m ≤ 2000000) :
    Calls Tryz.prog 9 #[.pointer (some ⟨xb, 0, none⟩), .int .i64 v] w fun e w' => e = .returned (.tuple #[]) ∧ ∃ y, XOk E w0 w' xb fr t0 y (k + 1) m ∧ (x.dn = true → y.dn = true) := by
  obtain ⟨⟨A, hA⟩, h2, h3, h4, h5, h6, h7⟩ := h
  have hb := bounds_i64 hv
  refine (xdo_any (E := E) v ⟨hb.1, by omega⟩ h2 hA (by omega) (by omega) (fun p hp => pk_len h2 hp) (come_ok xb t0 h6) h6.e2 h6.e4 h6.e5 h6.e8).mono ?_
  rintro e w' ⟨rfl, A', hA'⟩
  have L := act_law h2 v
  exact ⟨rfl, _, ⟨⟨A', hA'⟩, L.inv, L.fr.trans h3, by have := L.ge; omega, by have := L.net; omega, h6, hA'.rest.bel⟩, fun hd => (L.dn hd).1⟩
theorem xok_fin (h : XOk E w0 w xb fr t0 x k m) (hk : k ≤ 1000) (hm : m ≤ 1000) :
    Calls Tryz.prog 10 #[.pointer (some ⟨xb, 0, none⟩)] w fun e w' => e = .returned (.bool true) ∧ ∃ y, XOk E w0 w' xb fr t0 y k (m + 1048576) ∧ y.dn = true := by
  obtain ⟨⟨A, hA⟩, h2, h3, h4, h5, h6, h7⟩ := h
  refine (xfinish_any (E := E) h2 hA (by omega) (by omega) (come_ok xb t0 h6) h6.e2 h6.e4).mono ?_
  rintro e w' ⟨rfl, A', hA'⟩
  have FL := fin_law turnsN h2 (.inr (by have := left_le h2; have := turnsN_is; omega))
  exact ⟨rfl, _, ⟨⟨A', hA'⟩, FL.2.1, FL.2.2.1.trans h3, by rw [FL.2.2.2.1]; omega, by have := FL.2.2.2.2; have := turnsN_is; omega, h6, hA'.rest.bel⟩, FL.1⟩
theorem xok_to (h : XOk E w0 w xb fr t0 x k m) :
    Calls Tryz.prog 11 #[.pointer (some ⟨xb, 0, none⟩)] w fun e w' => ∃ r, e = .returned r ∧ w'.ownsRow w.heap.size 49 2 r x.tt.length (fcells x.tt) ∧ Below w.heap.size w w' := by
  obtain ⟨⟨A, hA⟩, h2, h3, h4, h5, h6, h7⟩ := h
  exact xto_any hA (by have := h2.tt.wf.few; omega)
theorem xok_done (h : XOk E w0 w xb fr t0 x k m) :
    Calls Tryz.prog 17 #[.pointer (some ⟨xb, 0, none⟩)] w fun e w' => e = .returned (.bool x.dn) ∧ w' = w := by
  obtain ⟨⟨A, hA⟩, h2, h3, h4, h5, h6, h7⟩ := h
  exact xdone_any hA
theorem xok_under (h : XOk E w0 w xb fr t0 x k m) :
    Calls Tryz.prog 16 #[.pointer (some ⟨xb, 0, none⟩)] w fun e w' => e = .returned (.int .i64 x.net.length) ∧ w' = w := by
  obtain ⟨⟨A, hA⟩, h2, h3, h4, h5, h6, h7⟩ := h
  exact xunder_any hA
theorem xok_near (h : XOk E w0 w xb fr t0 x k m) (ht : FWF t0) : ∀ g ∈ x.tt, NearF fr t0 g := by
  intro g hg
  rcases h.inv.near g hg with h1 | ⟨f, hf, h1, _⟩
  · exact .inl (fgetL_of ht.sorted h1)
  · refine .inr ⟨f.d, ?_, ?_, ?_⟩
    · rw [← line_n h1, ← h.fr]
      exact fgetL_of h.inv.fr.wf.sorted hf
    · have : ((f.d.length : Nat) : Int) = (g.d.length : Nat) := congrArg PL.N h1
      omega
    · exact congrArg PL.S h1
theorem xok_same (h : XOk E w0 w xb fr t0 x k m) (hd : x.dn = true) : x.tt.map PF.line = fr.map PF.line := tell_same h.inv hd h.fr
end
end Go.Proofs.YtdpoalbbcmkceaaGreatDoor
/- XferKeeps: a statement about transfers. -/
namespace Go.Proofs.YtdpoalbbcmkceaaGreatDoor
open Go.RowKit
set_option linter.unusedVariables false
set_option maxRecDepth 100000 in
set_option maxHeartbeats 51200000 in
theorem xferKeeps_walk (E : Nat → Addr) (s0 : Option Addr) (n0 c0 : Nat) (a0 : List PF) (s1 : Option Addr) (n1 c1 : Nat) (a1 : List PF) (s2 : Option Addr) (n2 c2 : Nat) (a2 : List Int) (w : World) (hl0 : SliceIs w (.slice s0 n0 c0) PF.cells (a0.flatMap PF.vals) ∧ ∀ x ∈ a0, x.ok) (hl1 : SliceIs w (.slice s1 n1 c1) PF.cells (a1.flatMap PF.vals) ∧ ∀ x ∈ a1, x.ok) (hl2 : SliceIs w (.slice s2 n2 c2) 1 (a2.map (.int .i64)) ∧ ∀ n ∈ a2, (Lit.int .i64 n).wf = true) (hh : Hand w) (h1 : ∀ c ∈ [1, 2, 3, 4, 5, 6, 7, 8, 9, 10, 11, 12], Has E w c ∧ Sent w (E c)) (h2 : ∀ c ∈ [1, 2, 3, 4, 5, 6, 7, 8, 9, 10, 11, 12], ∀ c' ∈ [1, 2, 3, 4, 5, 6, 7, 8, 9, 10, 11, 12], c ≠ c' → E c ≠ E c') :
    Calls Tryz.prog 4 #[.slice s0 n0 c0, .slice s1 n1 c1, .slice s2 n2 c2] w fun e w' => e = .returned (.bool true) ∧ Below w.heap.size w w' := by
  obtain ⟨hl, hok⟩ := hl0
  obtain ⟨hm, hom⟩ := hl1
  obtain ⟨hp, hpw⟩ := hl2
  rw [PF.vals_is] at hl hm
  have hl : SliceIs w (.slice s0 n0 c0) 2 (fcells a0) := hl
  have hm : SliceIs w (.slice s1 n1 c1) 2 (fcells a1) := hm
  have HOK := Lib.hid (show FOk a0 from hok)
  have HOM := Lib.hid (show FOk a1 from hom)
  have HPW := Lib.hid hpw
  have HE := Lib.hid (Errs.of hh h1 h2)
  have hlen : n0 = a0.length ∧ c0 ≤ maxLen ∧ n0 ≤ c0 := by
    obtain ⟨s', n', c', e, e2, e3, e4, _⟩ := hl.get
    cases e
    rw [fcells_len] at e2; exact ⟨by omega, e4, e3⟩
  have hlen1 : n1 = a1.length ∧ c1 ≤ maxLen ∧ n1 ≤ c1 := by
    obtain ⟨s', n', c', e, e2, e3, e4, _⟩ := hm.get
    cases e
    rw [fcells_len] at e2; exact ⟨by omega, e4, e3⟩
  have hlen2 : n2 = a2.length ∧ c2 ≤ maxLen ∧ n2 ≤ c2 := by
    obtain ⟨s', n', c', e, e2, e3, e4, _⟩ := hp.get
    cases e
    rw [List.length_map] at e2; exact ⟨by omega, e4, e3⟩
  obtain ⟨rfl, cc0, cc1⟩ := hlen
  obtain ⟨rfl, cd0, cd1⟩ := hlen1
  obtain ⟨rfl, ce0, ce1⟩ := hlen2
  unfold maxLen at cc0 cd0 ce0
  have HL := Lib.hid hl
  have HM := Lib.hid hm
  have HP := Lib.hid hp
  have MO := Lib.hid (moved_ok E w (xerr_of HE.out))
  have LO := Lib.hid (fun (w' : World) (b : Below w.heap.size w w') => longFl_any a0 _ 100 w' (HL.out.below b) (by omega) HOK.out)
  have LM := Lib.hid (fun (w' : World) (b : Below w.heap.size w w') => longFl_any a1 _ 100 w' (HM.out.below b) (by omega) HOM.out)
  have hx := longN_bd' a0 100
  have hy := longN_bd' a1 100
  generalize longN a0 100 = X at *
  generalize longN a1 100 = Y at *
  clear hl hm hp hok hom hpw hh h1 h2
  by_cases hXY : 0 < X + Y
  · have hX : X = 0 ∨ X = 1 := by omega
    have hY : Y = 0 ∨ Y = 1 := by omega
    clear hx hy
    go_enter Tryz.func4, Tryz.ntmps4
    go_wp2_with fail
    refine MO.out.mono ?_
    rintro e w1 ⟨rfl, b1⟩
    clear MO
    go_wp2_with fail
    refine (LO.out _ b1).mono ?_
    rintro e w2 ⟨rfl, b2⟩
    have b02 := below_trans' b1 b2
    go_wp2_with fail
    refine (LM.out _ b02).mono ?_
    rintro e w3 ⟨rfl, b3⟩
    have b03 := below_trans' b02 b3
    clear b1 b2 b02 b3 LO LM
    rcases hX with rfl | rfl <;> rcases hY with rfl | rfl
    · exact absurd hXY (by decide)
    all_goals
      go_wp2_with fail
      go_ret
      exact ⟨rfl, b03⟩
  have hx : X = 0 ∧ longFB a0 100 = false := by
    rcases hx with h | ⟨h, _⟩
    · exact h
    · rcases hy with ⟨h', _⟩ | ⟨h', _⟩ <;> omega
  have hy : Y = 0 ∧ longFB a1 100 = false := by
    rcases hy with h | ⟨h, _⟩
    · exact h
    · omega
  obtain ⟨rfl, hLF⟩ := hx
  obtain ⟨rfl, hLG⟩ := hy
  obtain ⟨h25, hea⟩ := longFB_no' hLF
  obtain ⟨h26, heb⟩ := longFB_no' hLG
  clear hXY hLF hLG
  by_cases hmany : 6 < a0.length ∨ 6 < a1.length ∨ 150 < a2.length
  · have hor : (6 : Int) < a0.length ∨ ¬ (6 : Int) < a0.length ∧ (6 : Int) < a1.length ∨ ¬ (6 : Int) < a0.length ∧ ¬ (6 : Int) < a1.length ∧ (150 : Int) < a2.length := by omega
    clear hmany hea heb
    go_enter Tryz.func4, Tryz.ntmps4
    go_wp2_with fail
    refine MO.out.mono ?_
    rintro e w1 ⟨rfl, b1⟩
    clear MO
    go_wp2_with fail
    refine (LO.out _ b1).mono ?_
    rintro e w2 ⟨rfl, b2⟩
    have b02 := below_trans' b1 b2
    go_wp2_with fail
    refine (LM.out _ b02).mono ?_
    rintro e w3 ⟨rfl, b3⟩
    have b03 := below_trans' b02 b3
    clear b1 b2 b02 b3 LO LM
    rcases hor with h | ⟨h, h'⟩ | ⟨h, h', h''⟩
    all_goals
      go_wp2_with fail
      go_ret
      exact ⟨rfl, b03⟩
  have hm0 : ¬ (6 : Int) < a0.length := by omega
  have hm1 : ¬ (6 : Int) < a1.length := by omega
  have hm2 : ¬ (150 : Int) < a2.length := by omega
  have h150 : a2.length ≤ 150 := by omega
  have SM0 := Lib.hid (fun (h : (flFault a0).1 = 0) => small_of ((flFault_wf a0).1 h) (fun f hf => (hea f hf).2))
  have SM1 := Lib.hid (fun (h : (flFault a1).1 = 0) => small_of ((flFault_wf a1).1 h) (fun f hf => (heb f hf).2))
  have OW := Lib.hid (fun (w' : World) (b : Below w.heap.size w w') => ownFl_any a0 _ w' (HL.out.below b) (by omega))
  have OM := Lib.hid (fun (w' : World) (b : Below w.heap.size w w') => ownFl_any a1 _ w' (HM.out.below b) (by omega))
  have H25 := Lib.hid (And.intro h25 h26)
  have FA := Lib.hid (fun (w' : World) (b : Below w.heap.size w w') => filesFault_any a0 _ w' (HL.out.below b) (fun x hx => by have := hea x hx; omega) (by omega))
  have FB := Lib.hid (fun (w' : World) (b : Below w.heap.size w w') => filesFault_any a1 _ w' (HM.out.below b) (fun x hx => by have := heb x hx; omega) (by omega))
  clear hmany hea heb h25 h26
  simp only [rfv_is] at FA FB
  have HC0 := Lib.hid (flFault_le' a0)
  have HC1 := Lib.hid (flFault_le' a1)
  by_cases hf0 : (flFault a0).1 = 0
  case neg =>
    have NB := Lib.hid (fun (v1 v2 : Value) (w' : World) (b : Below w.heap.size w w') (h : SliceIs w' v1 2 (fcells a0)) => xnew_bad1 E a0 v1 v2 w' h HOK.out (by have := H25.out; omega) hf0 ((xerr_of HE.out).e2.below b) ((xerr_of HE.out).e5.below b) ((xerr_of HE.out).e8.below b) ((xerr_of HE.out).e9.below b))
    have hc0 : (((flFault a0).1 : Int) == 0) = false := by rw [beq_eq_false_iff_ne]; omega
    have hc1 : (0 : Int) < ((flFault a0).1 : Int) := by omega
    clear SM0 SM1 FB HC1 hf0
    generalize flFault a0 = q at *
    obtain ⟨qc, qa⟩ := q
    simp only [] at hc0 hc1 NB FA HC0
    go_enter Tryz.func4, Tryz.ntmps4
    go_wp2_with fail
    refine MO.out.mono ?_
    rintro e w1 ⟨rfl, b1⟩
    clear MO
    go_wp2_with fail
    refine (LO.out _ b1).mono ?_
    rintro e w2 ⟨rfl, b2⟩
    have b02 := below_trans' b1 b2
    go_wp2_with fail
    refine (LM.out _ b02).mono ?_
    rintro e w3 ⟨rfl, b3⟩
    have B03 := Lib.hid (below_trans' b02 b3)
    clear b1 b2 b02 b3 LO LM
    go_wp2_with fail
    refine (FA.out _ B03.out).mono ?_
    rintro e w4 ⟨rfl, b4⟩
    have B04 := Lib.hid (below_trans' B03.out b4)
    have B05 := Lib.hid (below_trans' B04.out (wb_alloc w4 (.cells #[.int .i64 qc, .int .i64 qa] 42)))
    have N5 := Lib.hid (heap_alloc_new w4 (.cells #[.int .i64 qc, .int .i64 qa] 42))
    clear b4 FA B03 B04
    go_wp2_with fail
    generalize w4.alloc (.cells #[.int .i64 qc, .int .i64 qa] 42) = w5 at *
    generalize w4.heap.size = fb at *
    refine (OW.out _ B05.out).mono ?_
    rintro e w6 ⟨r6, rfl, o6, b6⟩
    have B06 := Lib.hid (below_trans' B05.out b6)
    have N6 := Lib.hid ((b6.block fb (lt_of_block N5.out)).trans N5.out)
    have O6 := Lib.hid (SliceIs.ownedK o6)
    clear o6 b6 OW N5 B05
    go_wp2_with fail
    refine (OM.out _ B06.out).mono ?_
    rintro e w7 ⟨r7, rfl, o7, b7⟩
    have B07 := Lib.hid (below_trans' B06.out b7)
    have N7 := Lib.hid ((b7.block fb (lt_of_block N6.out)).trans N6.out)
    have NB7 := Lib.hid (NB.out r6 r7 w7 B07.out (O6.out.below b7))
    clear o7 b7 OM N6 B06 NB O6
    go_wp2_with fail
    refine NB7.out.mono ?_
    rintro e w8 ⟨er, rfl, fe, b8⟩
    have B08 := Lib.hid (below_trans' B07.out b8)
    have N8 := (b8.block fb (lt_of_block N7.out)).trans N7.out
    have d0 : w8.cell? ⟨fb, 0, none⟩ = some (.int .i64 qc) := by simp [World.cell?, N8]
    have d1 : w8.cell? ⟨fb, 1, none⟩ = some (.int .i64 qa) := by simp [World.cell?, N8]
    have FY := Lib.hid (faulted_yes E er qc qa w8 fe (HE.out.below B08.out) HC0.out)
    clear fe b8 NB7 N7 B07 N8
    go_wp2_with fail
    refine FY.out.mono ?_
    rintro e w9 ⟨rfl, b9⟩
    have B09 := Lib.hid (below_trans' B08.out b9)
    clear b9 FY
    go_wp2_with fail
    go_ret
    exact ⟨rfl, B09.out⟩
  have Z0 := Lib.hid (show flFault a0 = (0, -1) from flFault_zero' hf0)
  rw [Z0.out] at FA
  by_cases hf1 : (flFault a1).1 = 0
  case neg =>
    have NB := Lib.hid (fun (v1 v2 : Value) (w' : World) (b : Below w.heap.size w w') (h : SliceIs w' v1 2 (fcells a0)) (h' : SliceIs w' v2 2 (fcells a1)) => xnew_bad2 E a0 a1 v1 v2 w' h h' ((flFault_wf a0).1 hf0) HOM.out (by have := H25.out; omega) hf1 ((xerr_of HE.out).e2.below b) ((xerr_of HE.out).e5.below b) ((xerr_of HE.out).e8.below b) ((xerr_of HE.out).e9.below b))
    have hc1 : (0 : Int) < ((flFault a1).1 : Int) := by omega
    clear SM0 SM1 HC0 hf0 hf1 Z0
    generalize flFault a1 = q at *
    obtain ⟨qc, qa⟩ := q
    simp only [] at hc1 NB FB HC1
    go_enter Tryz.func4, Tryz.ntmps4
    go_wp2_with fail
    refine MO.out.mono ?_
    rintro e w1 ⟨rfl, b1⟩
    clear MO
    go_wp2_with fail
    refine (LO.out _ b1).mono ?_
    rintro e w2 ⟨rfl, b2⟩
    have b02 := below_trans' b1 b2
    go_wp2_with fail
    refine (LM.out _ b02).mono ?_
    rintro e w3 ⟨rfl, b3⟩
    have B03 := Lib.hid (below_trans' b02 b3)
    clear b1 b2 b02 b3 LO LM
    go_wp2_with fail
    refine (FA.out _ B03.out).mono ?_
    rintro e w4 ⟨rfl, b4⟩
    have B04 := Lib.hid (below_trans' B03.out b4)
    have B05 := Lib.hid (below_trans' B04.out (wb_alloc w4 (.cells #[.int .i64 0, .int .i64 (-1)] 42)))
    have N5 := Lib.hid (heap_alloc_new w4 (.cells #[.int .i64 0, .int .i64 (-1)] 42))
    have hsz := B04.out.size
    clear b4 FA B03 B04
    go_wp2_with fail
    generalize w4.alloc (.cells #[.int .i64 0, .int .i64 (-1)] 42) = w5 at *
    generalize w4.heap.size = fb at *
    refine (FB.out _ B05.out).mono ?_
    rintro e w6 ⟨rfl, b6⟩
    have N6 := (b6.block fb (lt_of_block N5.out)).trans N5.out
    have d0 : w6.cell? ⟨fb, 0, none⟩ = some (.int .i64 0) := by simp [World.cell?, N6]
    have d1 : w6.cell? ⟨fb, 1, none⟩ = some (.int .i64 (-1)) := by simp [World.cell?, N6]
    have z0 : w6.frozen? ⟨fb, 0, none⟩ = false := by simp [World.frozen?, N6]
    have z1 : w6.frozen? ⟨fb, 1, none⟩ = false := by simp [World.frozen?, N6]
    have N7 := Lib.hid (show ((w6.setCell ⟨fb, 0, none⟩ (.int .i64 qc)).setCell ⟨fb, 1, none⟩ (.int .i64 qa)).heap[fb]? = some (.cells #[.int .i64 qc, .int .i64 qa] 42 (0, 0)) from by
      have := set_at (k := 1) (u := .int .i64 qa) (set_at (k := 0) (u := .int .i64 qc) N6)
      simpa using this)
    have B07 := Lib.hid (((below_trans' B05.out b6).setCell (p := ⟨fb, 0, none⟩) hsz (.int .i64 qc)).setCell (p := ⟨fb, 1, none⟩) hsz (.int .i64 qa))
    clear b6 FB N5 N6 B05
    go_wp2_with fail
    generalize (w6.setCell ⟨fb, 0, none⟩ (.int .i64 qc)).setCell ⟨fb, 1, none⟩ (.int .i64 qa) = w7 at *
    refine (OW.out _ B07.out).mono ?_
    rintro e w8 ⟨r8, rfl, o8, b8⟩
    have B08 := Lib.hid (below_trans' B07.out b8)
    have N8 := Lib.hid ((b8.block fb (lt_of_block N7.out)).trans N7.out)
    have O8 := Lib.hid (SliceIs.ownedK o8)
    clear o8 b8 OW N7 B07
    go_wp2_with fail
    refine (OM.out _ B08.out).mono ?_
    rintro e w9 ⟨r9, rfl, o9, b9⟩
    have B09 := Lib.hid (below_trans' B08.out b9)
    have N9 := Lib.hid ((b9.block fb (lt_of_block N8.out)).trans N8.out)
    have NB9 := Lib.hid (NB.out r8 r9 w9 B09.out (O8.out.below b9) (SliceIs.ownedK o9))
    clear o9 b9 OM N8 B08 NB O8
    go_wp2_with fail
    refine NB9.out.mono ?_
    rintro e w10 ⟨er, rfl, fe, b10⟩
    have B10 := Lib.hid (below_trans' B09.out b10)
    have N10 := (b10.block fb (lt_of_block N9.out)).trans N9.out
    have d0 : w10.cell? ⟨fb, 0, none⟩ = some (.int .i64 qc) := by simp [World.cell?, N10]
    have d1 : w10.cell? ⟨fb, 1, none⟩ = some (.int .i64 qa) := by simp [World.cell?, N10]
    have FY := Lib.hid (faulted_yes E er qc qa w10 fe (HE.out.below B10.out) HC1.out)
    clear fe b10 NB9 N9 B09 N10
    go_wp2_with fail
    refine FY.out.mono ?_
    rintro e w11 ⟨rfl, b11⟩
    have B11 := Lib.hid (below_trans' B10.out b11)
    clear b11 FY
    go_wp2_with fail
    go_ret
    exact ⟨rfl, B11.out⟩
  have Z1 := Lib.hid (show flFault a1 = (0, -1) from flFault_zero' hf1)
  rw [Z1.out] at FB
  have SA := Lib.hid (SM0.out hf0)
  have SB := Lib.hid (SM1.out hf1)
  clear HC0 HC1 Z0 Z1 hf0 hf1 SM0 SM1
  go_enter Tryz.func4, Tryz.ntmps4
  go_wp2_with fail
  refine MO.out.mono ?_
  rintro e w1 ⟨rfl, b1⟩
  clear MO
  go_wp2_with fail
  refine (LO.out _ b1).mono ?_
  rintro e w2 ⟨rfl, b2⟩
  have b02 := below_trans' b1 b2
  go_wp2_with fail
  refine (LM.out _ b02).mono ?_
  rintro e w3 ⟨rfl, b3⟩
  have B03 := Lib.hid (below_trans' b02 b3)
  clear b1 b2 b02 b3 LO LM
  go_wp2_with fail
  refine (FA.out _ B03.out).mono ?_
  rintro e w4 ⟨rfl, b4⟩
  have B04 := Lib.hid (below_trans' B03.out b4)
  have B05 := Lib.hid (below_trans' B04.out (wb_alloc w4 (.cells #[.int .i64 0, .int .i64 (-1)] 42)))
  have N5 := Lib.hid (heap_alloc_new w4 (.cells #[.int .i64 0, .int .i64 (-1)] 42))
  have hsz := B04.out.size
  clear b4 FA B03 B04
  go_wp2_with fail
  generalize w4.alloc (.cells #[.int .i64 0, .int .i64 (-1)] 42) = w5 at *
  generalize w4.heap.size = fb at *
  refine (FB.out _ B05.out).mono ?_
  rintro e w6 ⟨rfl, b6⟩
  have N6 := (b6.block fb (lt_of_block N5.out)).trans N5.out
  have d0 : w6.cell? ⟨fb, 0, none⟩ = some (.int .i64 0) := by simp [World.cell?, N6]
  have d1 : w6.cell? ⟨fb, 1, none⟩ = some (.int .i64 (-1)) := by simp [World.cell?, N6]
  have z0 : w6.frozen? ⟨fb, 0, none⟩ = false := by simp [World.frozen?, N6]
  have z1 : w6.frozen? ⟨fb, 1, none⟩ = false := by simp [World.frozen?, N6]
  have N7 := Lib.hid (show ((w6.setCell ⟨fb, 0, none⟩ (.int .i64 0)).setCell ⟨fb, 1, none⟩ (.int .i64 (-1))).heap[fb]? = some (.cells #[.int .i64 0, .int .i64 (-1)] 42 (0, 0)) from by
    have := set_at (k := 1) (u := .int .i64 (-1)) (set_at (k := 0) (u := .int .i64 0) N6)
    simpa using this)
  have B07 := Lib.hid (((below_trans' B05.out b6).setCell (p := ⟨fb, 0, none⟩) hsz (.int .i64 0)).setCell (p := ⟨fb, 1, none⟩) hsz (.int .i64 (-1)))
  clear b6 FB N5 N6 B05
  go_wp2_with fail
  generalize (w6.setCell ⟨fb, 0, none⟩ (.int .i64 0)).setCell ⟨fb, 1, none⟩ (.int .i64 (-1)) = w7 at *
  refine (OW.out _ B07.out).mono ?_
  rintro e w8 ⟨r8, rfl, o8, b8⟩
  have B08 := Lib.hid (below_trans' B07.out b8)
  have N8 := Lib.hid ((b8.block fb (lt_of_block N7.out)).trans N7.out)
  have O8 := Lib.hid (SliceIs.ownedK o8)
  clear o8 b8 OW N7 B07
  go_wp2_with fail
  refine (OM.out _ B08.out).mono ?_
  rintro e w9 ⟨r9, rfl, o9, b9⟩
  have B09 := Lib.hid (below_trans' B08.out b9)
  have N9 := Lib.hid ((b9.block fb (lt_of_block N8.out)).trans N8.out)
  have NW := Lib.hid (xok_new (E := E) a0 a1 r8 r9 w9 (O8.out.below b9) (SliceIs.ownedK o9) SA.out SB.out ((xerr_of HE.out).below B09.out))
  clear o9 b9 OM N8 B08 O8
  go_wp2_with fail
  refine NW.out.mono ?_
  rintro e w10 ⟨xb, x0, rfl, hX⟩
  have X0 := Lib.hid hX
  have N10 := (hX.bel.block fb (lt_of_block N9.out)).trans N9.out
  have d0 : w10.cell? ⟨fb, 0, none⟩ = some (.int .i64 0) := by simp [World.cell?, N10]
  clear hX NW N9 N10
  go_wp2_with fail
  go_loopw [11, 12, 13, 14] (fun i _ _ _ wr => ∃ (k : Nat) (y : XS), i = .int .i64 k ∧ k ≤ a2.length ∧ XOk E w9 wr xb a0 a1 y k 0) (fun i _ _ _ _ => a2.length - (intOf i).toNat)
  case atStart => exact ⟨0, x0, rfl, by omega, X0.out⟩
  case round =>
    clear X0 d0
    obtain ⟨k, y, rfl, hk, hX⟩ := hrel
    by_cases hlt : k < a2.length
    · have hltI : (k : Int) < a2.length := by omega
      obtain ⟨s', n', c', q, _, _, _, g1⟩ := (HP.out.below (below_trans' B09.out hX.bel)).get
      cases q
      obtain ⟨ad, rfl, dv⟩ := g1 k (.int .i64 (a2[k]'hlt)) (by simp [hlt])
      clear g1
      have KK := Lib.hid (show k + 1 ≤ a2.length by omega)
      have x1 : (0 : Int) ≤ k := by omega
      have x2 : (k : Int).toNat = k := by omega
      have DO := Lib.hid (xok_do (a2[k]'hlt) (HPW.out _ (List.getElem_mem _)) hX (by omega) (by omega))
      generalize a2[k]'hlt = v at *
      clear hX
      go_wp2_with fail
      refine DO.out.mono ?_
      rintro e w11 ⟨rfl, z, hZ, _⟩
      have Z := Lib.hid hZ
      have TO := Lib.hid (xok_to hZ)
      clear hZ DO dv
      go_wp2_with fail
      refine TO.out.mono ?_
      rintro e w12 ⟨r12, rfl, o12, b12⟩
      have Z12 := Lib.hid (Z.out.below b12)
      have B12 := Lib.hid (below_trans' B09.out Z12.out.bel)
      have S12 := Lib.hid (SliceIs.ownedK o12)
      have NY := Lib.hid (near_yes z.tt a0 a1 r12 _ _ w12 S12.out (HL.out.below B12.out) (HM.out.below B12.out) Z.out.inv.tt.wf (fun g hg => by have := SA.out.len g hg; omega) (xok_near Z.out SB.out.wf))
      obtain ⟨ra, rc, rfl⟩ := owns_slice o12
      clear o12 b12 TO Z
      go_wp2_with fail
      refine NY.out.mono ?_
      rintro e w13 ⟨rfl, b13⟩
      have Z13 := Lib.hid (Z12.out.below b13)
      have S13 := Lib.hid (S12.out.below b13)
      have UN := Lib.hid (xok_under Z13.out)
      have hU : decide (((z.net.length : Nat) : Int) < 0) = false := by simp
      have DN := Lib.hid (xok_done Z13.out)
      have SM := Lib.hid (xok_same Z13.out)
      clear b13 NY Z12 S12
      go_wp2_with fail
      generalize ((z.net.length : Nat) : Int) = un at *
      refine UN.out.mono ?_
      rintro e w14 ⟨rfl, rfl⟩
      clear UN
      go_wp2_with fail
      refine DN.out.mono ?_
      rintro e w15 ⟨rfl, rfl⟩
      clear DN
      cases hd : z.dn with
      | true =>
        have AL := Lib.hid (alike_yes z.tt a0 _ _ w15 S13.out (HL.out.below (below_trans' B09.out Z13.out.bel)) (fun g hg => by have := SA.out.len g hg; omega) (SM.out hd))
        clear hd SM
        go_wp2_with fail
        refine AL.out.mono ?_
        rintro e w16 ⟨rfl, b16⟩
        have Z16 := Lib.hid (Z13.out.below b16)
        clear b16 AL Z13
        go_wp2_with fail
        go_roundw
        case rel => exact ⟨k + 1, z, by go_num, KK.out, Z16.out⟩
        case measure => simp [intOf]; omega
      | false =>
        clear hd SM
        go_wp2_with fail
        go_roundw
        case rel => exact ⟨k + 1, z, by go_num, KK.out, Z13.out⟩
        case measure => simp [intOf]; omega
    · have hltI : ¬ (k : Int) < a2.length := by omega
      have FN := Lib.hid (xok_fin hX (by omega) (by omega))
      have HKL := Lib.hid (show k = a2.length by omega)
      have H150 := Lib.hid h150
      clear hX h150
      go_wp2_with fail
      refine FN.out.mono ?_
      rintro e w11 ⟨rfl, z, hZ, hd⟩
      have Z := Lib.hid hZ
      have HD := Lib.hid hd
      have DN := Lib.hid (xok_done hZ)
      rw [hd] at DN
      clear hZ FN hd
      go_wp2_with fail
      refine DN.out.mono ?_
      rintro e w12 ⟨rfl, rfl⟩
      clear DN
      go_wp2_with fail
      go_loopw [15] (fun i wr => ∃ (v : Nat) (y : XS), i = .int .i64 v ∧ v ≤ 24 ∧ XOk E w9 wr xb a0 a1 y (k + v) (0 + 1048576) ∧ y.dn = true) (fun i _ => 24 - (intOf i).toNat)
      case atStart => exact ⟨0, z, rfl, by omega, Z.out, HD.out⟩
      case round =>
        clear Z HD
        obtain ⟨v, y, rfl, hv, hY, hd⟩ := hrel
        by_cases hlt2 : v < 24
        · have hltI2 : (v : Int) < 24 := by omega
          have DO := Lib.hid (xok_do (v : Int) (WalkArith.wf_i64 (by omega)) hY (by have := HKL.out; have := H150.out; omega) (by omega))
          have HDD := Lib.hid hd
          have VV := Lib.hid (show v + 1 ≤ 24 by omega)
          clear hY hd hlt
          go_wp2_with fail
          refine DO.out.mono ?_
          rintro e w13 ⟨rfl, u, hU, hd⟩
          have U := Lib.hid hU
          have HD := Lib.hid (hd HDD.out)
          clear hU hd DO
          go_wp2_with fail
          go_roundw
          case rel => exact ⟨v + 1, u, by go_num, VV.out, U.out, HD.out⟩
          case measure => simp [intOf]; omega
        · have hltI2 : ¬ (v : Int) < 24 := by omega
          have Y := Lib.hid hY
          have TO := Lib.hid (xok_to hY)
          have SM := Lib.hid (xok_same hY hd)
          have HDD := Lib.hid hd
          clear hY hd
          go_wp2_with fail
          refine TO.out.mono ?_
          rintro e w13 ⟨r13, rfl, o13, b13⟩
          have Y13 := Lib.hid (Y.out.below b13)
          have B13 := Lib.hid (below_trans' B09.out Y13.out.bel)
          have AL := Lib.hid (alike_yes y.tt a0 r13 _ w13 (SliceIs.ownedK o13) (HL.out.below B13.out) (fun g hg => by have := SA.out.len g hg; omega) SM.out)
          obtain ⟨ra, rc, rfl⟩ := owns_slice o13
          clear o13 b13 TO Y
          go_wp2_with fail
          refine AL.out.mono ?_
          rintro e w14 ⟨rfl, b14⟩
          have Y14 := Lib.hid (Y13.out.below b14)
          have DN := Lib.hid (xok_done Y14.out)
          rw [HDD.out] at DN
          clear b14 AL Y13
          go_wp2_with fail
          refine DN.out.mono ?_
          rintro e w15 ⟨rfl, rfl⟩
          clear DN
          go_wp2_with fail
          go_ret
          exact ⟨rfl, below_trans' B09.out Y14.out.bel⟩
end Go.Proofs.YtdpoalbbcmkceaaGreatDoor
/- XferSame: a statement about transfers. -/
namespace Go.Proofs.YtdpoalbbcmkceaaGreatDoor
open Go.RowKit
set_option linter.unusedVariables false
set_option maxRecDepth 100000 in
set_option maxHeartbeats 51200000 in
theorem xferSame_walk (E : Nat → Addr) (s0 : Option Addr) (n0 c0 : Nat) (a0 : List PF) (s1 : Option Addr) (n1 c1 : Nat) (a1 : List PF) (s2 : Option Addr) (n2 c2 : Nat) (a2 : List Int) (w : World) (hl0 : SliceIs w (.slice s0 n0 c0) PF.cells (a0.flatMap PF.vals) ∧ ∀ x ∈ a0, x.ok) (hl1 : SliceIs w (.slice s1 n1 c1) PF.cells (a1.flatMap PF.vals) ∧ ∀ x ∈ a1, x.ok) (hl2 : SliceIs w (.slice s2 n2 c2) 1 (a2.map (.int .i64)) ∧ ∀ n ∈ a2, (Lit.int .i64 n).wf = true) (h1 : ∀ c ∈ [1, 2, 3, 4, 5, 6, 8, 9, 10, 11], Has E w c ∧ Sent w (E c)) (h2 : ∀ c ∈ [1, 2, 3, 4, 5, 6, 8, 9, 10, 11], ∀ c' ∈ [1, 2, 3, 4, 5, 6, 8, 9, 10, 11], c ≠ c' → E c ≠ E c') :
    Calls Tryz.prog 3 #[.slice s0 n0 c0, .slice s1 n1 c1, .slice s2 n2 c2] w fun e w' => e = .returned (.bool true) ∧ Below w.heap.size w w' := by
  obtain ⟨hl, hok⟩ := hl0
  obtain ⟨hm, hom⟩ := hl1
  obtain ⟨hp, hpw⟩ := hl2
  rw [PF.vals_is] at hl hm
  have hl : SliceIs w (.slice s0 n0 c0) 2 (fcells a0) := hl
  have hm : SliceIs w (.slice s1 n1 c1) 2 (fcells a1) := hm
  have HOK := Lib.hid (show FOk a0 from hok)
  have HOM := Lib.hid (show FOk a1 from hom)
  have HPW := Lib.hid hpw
  have HE := Lib.hid (show XErr E w from ⟨(h1 1 (by simp)).1, (h1 2 (by simp)).1, (h1 3 (by simp)).1, (h1 4 (by simp)).1, (h1 5 (by simp)).1, (h1 6 (by simp)).1, (h1 8 (by simp)).1, (h1 9 (by simp)).1, (h1 10 (by simp)).1, (h1 11 (by simp)).1⟩)
  have hlen : n0 = a0.length ∧ c0 ≤ maxLen ∧ n0 ≤ c0 := by
    obtain ⟨s', n', c', e, e2, e3, e4, _⟩ := hl.get
    cases e
    rw [fcells_len] at e2; exact ⟨by omega, e4, e3⟩
  have hlen1 : n1 = a1.length ∧ c1 ≤ maxLen ∧ n1 ≤ c1 := by
    obtain ⟨s', n', c', e, e2, e3, e4, _⟩ := hm.get
    cases e
    rw [fcells_len] at e2; exact ⟨by omega, e4, e3⟩
  have hlen2 : n2 = a2.length ∧ c2 ≤ maxLen ∧ n2 ≤ c2 := by
    obtain ⟨s', n', c', e, e2, e3, e4, _⟩ := hp.get
    cases e
    rw [List.length_map] at e2; exact ⟨by omega, e4, e3⟩
  obtain ⟨rfl, cc0, cc1⟩ := hlen
  obtain ⟨rfl, cd0, cd1⟩ := hlen1
  obtain ⟨rfl, ce0, ce1⟩ := hlen2
  unfold maxLen at cc0 cd0 ce0
  have HL := Lib.hid hl
  have HM := Lib.hid hm
  have HP := Lib.hid hp
  have MO := Lib.hid (moved_ok E w (HE.out))
  have LO := Lib.hid (fun (w' : World) (b : Below w.heap.size w w') => longFl_any a0 _ 100 w' (HL.out.below b) (by omega) HOK.out)
  have LM := Lib.hid (fun (w' : World) (b : Below w.heap.size w w') => longFl_any a1 _ 100 w' (HM.out.below b) (by omega) HOM.out)
  have hx := longN_bd' a0 100
  have hy := longN_bd' a1 100
  generalize longN a0 100 = X at *
  generalize longN a1 100 = Y at *
  clear hl hm hp hok hom hpw h1 h2
  by_cases hXY : 0 < X + Y
  · have hX : X = 0 ∨ X = 1 := by omega
    have hY : Y = 0 ∨ Y = 1 := by omega
    clear hx hy
    go_enter Tryz.func3, Tryz.ntmps3
    go_wp2_with fail
    refine MO.out.mono ?_
    rintro e w1 ⟨rfl, b1⟩
    clear MO
    go_wp2_with fail
    refine (LO.out _ b1).mono ?_
    rintro e w2 ⟨rfl, b2⟩
    have b02 := below_trans' b1 b2
    go_wp2_with fail
    refine (LM.out _ b02).mono ?_
    rintro e w3 ⟨rfl, b3⟩
    have b03 := below_trans' b02 b3
    clear b1 b2 b02 b3 LO LM
    rcases hX with rfl | rfl <;> rcases hY with rfl | rfl
    · exact absurd hXY (by decide)
    all_goals
      go_wp2_with fail
      go_ret
      exact ⟨rfl, b03⟩
  have hx : X = 0 ∧ longFB a0 100 = false := by
    rcases hx with h | ⟨h, _⟩
    · exact h
    · rcases hy with ⟨h', _⟩ | ⟨h', _⟩ <;> omega
  have hy : Y = 0 ∧ longFB a1 100 = false := by
    rcases hy with h | ⟨h, _⟩
    · exact h
    · omega
  obtain ⟨rfl, hLF⟩ := hx
  obtain ⟨rfl, hLG⟩ := hy
  obtain ⟨h25, hea⟩ := longFB_no' hLF
  obtain ⟨h26, heb⟩ := longFB_no' hLG
  clear hXY hLF hLG
  by_cases hmany : 6 < a0.length ∨ 6 < a1.length ∨ 100 < a2.length
  · have hor : (6 : Int) < a0.length ∨ ¬ (6 : Int) < a0.length ∧ (6 : Int) < a1.length ∨ ¬ (6 : Int) < a0.length ∧ ¬ (6 : Int) < a1.length ∧ (100 : Int) < a2.length := by omega
    clear hmany hea heb
    go_enter Tryz.func3, Tryz.ntmps3
    go_wp2_with fail
    refine MO.out.mono ?_
    rintro e w1 ⟨rfl, b1⟩
    clear MO
    go_wp2_with fail
    refine (LO.out _ b1).mono ?_
    rintro e w2 ⟨rfl, b2⟩
    have b02 := below_trans' b1 b2
    go_wp2_with fail
    refine (LM.out _ b02).mono ?_
    rintro e w3 ⟨rfl, b3⟩
    have b03 := below_trans' b02 b3
    clear b1 b2 b02 b3 LO LM
    rcases hor with h | ⟨h, h'⟩ | ⟨h, h', h''⟩
    all_goals
      go_wp2_with fail
      go_ret
      exact ⟨rfl, b03⟩
  have hm0 : ¬ (6 : Int) < a0.length := by omega
  have hm1 : ¬ (6 : Int) < a1.length := by omega
  have hm2 : ¬ (100 : Int) < a2.length := by omega
  have h150 : a2.length ≤ 100 := by omega
  have SM0 := Lib.hid (fun (h : (flFault a0).1 = 0) => small_of ((flFault_wf a0).1 h) (fun f hf => (hea f hf).2))
  have SM1 := Lib.hid (fun (h : (flFault a1).1 = 0) => small_of ((flFault_wf a1).1 h) (fun f hf => (heb f hf).2))
  have OW := Lib.hid (fun (w' : World) (b : Below w.heap.size w w') => ownFl_any a0 _ w' (HL.out.below b) (by omega))
  have OM := Lib.hid (fun (w' : World) (b : Below w.heap.size w w') => ownFl_any a1 _ w' (HM.out.below b) (by omega))
  have H25 := Lib.hid (And.intro h25 h26)
  clear hmany hea heb h25 h26
  by_cases hf0 : (flFault a0).1 = 0
  case neg =>
    have NB := Lib.hid (fun (v1 v2 : Value) (w' : World) (b : Below w.heap.size w w') (h : SliceIs w' v1 2 (fcells a0)) => xnew_bad1 E a0 v1 v2 w' h HOK.out (by have := H25.out; omega) hf0 (HE.out.e2.below b) (HE.out.e5.below b) (HE.out.e8.below b) (HE.out.e9.below b))
    have HF := Lib.hid hf0
    clear SM0 SM1 hf0
    generalize flFault a0 = q at *
    go_enter Tryz.func3, Tryz.ntmps3
    go_wp2_with fail
    refine MO.out.mono ?_
    rintro e w1 ⟨rfl, b1⟩
    clear MO
    go_wp2_with fail
    refine (LO.out _ b1).mono ?_
    rintro e w2 ⟨rfl, b2⟩
    have b02 := below_trans' b1 b2
    go_wp2_with fail
    refine (LM.out _ b02).mono ?_
    rintro e w3 ⟨rfl, b3⟩
    have B03 := Lib.hid (below_trans' b02 b3)
    clear b1 b2 b02 b3 LO LM
    go_wp2_with fail
    refine (OW.out _ B03.out).mono ?_
    rintro e w6 ⟨r6, rfl, o6, b6⟩
    have B06 := Lib.hid (below_trans' B03.out b6)
    have O6 := Lib.hid (SliceIs.ownedK o6)
    clear o6 b6 OW
    go_wp2_with fail
    refine (OM.out _ B06.out).mono ?_
    rintro e w7 ⟨r7, rfl, o7, b7⟩
    have B07 := Lib.hid (below_trans' B06.out b7)
    have NB7 := Lib.hid (NB.out r6 r7 w7 B07.out (O6.out.below b7))
    clear o7 b7 OM B06 NB O6
    go_wp2_with fail
    refine NB7.out.mono ?_
    rintro e w8 ⟨er, rfl, fe, b8⟩
    have B08 := Lib.hid (below_trans' B07.out b8)
    obtain ⟨vt, vp, rfl⟩ := fe.some HF.out
    clear fe b8 NB7 B07
    go_wp2_with fail
    go_ret
    exact ⟨rfl, B08.out⟩
  by_cases hf1 : (flFault a1).1 = 0
  case neg =>
    have NB := Lib.hid (fun (v1 v2 : Value) (w' : World) (b : Below w.heap.size w w') (h : SliceIs w' v1 2 (fcells a0)) (h' : SliceIs w' v2 2 (fcells a1)) => xnew_bad2 E a0 a1 v1 v2 w' h h' ((flFault_wf a0).1 hf0) HOM.out (by have := H25.out; omega) hf1 (HE.out.e2.below b) (HE.out.e5.below b) (HE.out.e8.below b) (HE.out.e9.below b))
    have HF := Lib.hid hf1
    clear SM0 SM1 hf0 hf1
    generalize flFault a1 = q at *
    go_enter Tryz.func3, Tryz.ntmps3
    go_wp2_with fail
    refine MO.out.mono ?_
    rintro e w1 ⟨rfl, b1⟩
    clear MO
    go_wp2_with fail
    refine (LO.out _ b1).mono ?_
    rintro e w2 ⟨rfl, b2⟩
    have b02 := below_trans' b1 b2
    go_wp2_with fail
    refine (LM.out _ b02).mono ?_
    rintro e w3 ⟨rfl, b3⟩
    have B03 := Lib.hid (below_trans' b02 b3)
    clear b1 b2 b02 b3 LO LM
    go_wp2_with fail
    refine (OW.out _ B03.out).mono ?_
    rintro e w6 ⟨r6, rfl, o6, b6⟩
    have B06 := Lib.hid (below_trans' B03.out b6)
    have O6 := Lib.hid (SliceIs.ownedK o6)
    clear o6 b6 OW
    go_wp2_with fail
    refine (OM.out _ B06.out).mono ?_
    rintro e w7 ⟨r7, rfl, o7, b7⟩
    have B07 := Lib.hid (below_trans' B06.out b7)
    have NB7 := Lib.hid (NB.out r6 r7 w7 B07.out (O6.out.below b7) (SliceIs.ownedK o7))
    clear o7 b7 OM B06 NB O6
    go_wp2_with fail
    refine NB7.out.mono ?_
    rintro e w8 ⟨er, rfl, fe, b8⟩
    have B08 := Lib.hid (below_trans' B07.out b8)
    obtain ⟨vt, vp, rfl⟩ := fe.some HF.out
    clear fe b8 NB7 B07
    go_wp2_with fail
    go_ret
    exact ⟨rfl, B08.out⟩
  have SA := Lib.hid (SM0.out hf0)
  have SB := Lib.hid (SM1.out hf1)
  clear hf0 hf1 SM0 SM1
  go_enter Tryz.func3, Tryz.ntmps3
  go_wp2_with fail
  refine MO.out.mono ?_
  rintro e w1 ⟨rfl, b1⟩
  clear MO
  go_wp2_with fail
  refine (LO.out _ b1).mono ?_
  rintro e w2 ⟨rfl, b2⟩
  have b02 := below_trans' b1 b2
  go_wp2_with fail
  refine (LM.out _ b02).mono ?_
  rintro e w3 ⟨rfl, b3⟩
  have B03 := Lib.hid (below_trans' b02 b3)
  clear b1 b2 b02 b3 LO LM
  go_wp2_with fail
  have OW2 := OW
  refine (OW.out _ B03.out).mono ?_
  rintro e w8 ⟨r8, rfl, o8, b8⟩
  have B08 := Lib.hid (below_trans' B03.out b8)
  have O8 := Lib.hid (SliceIs.ownedK o8)
  clear o8 b8 OW B03
  go_wp2_with fail
  refine (OM.out _ B08.out).mono ?_
  rintro e w9 ⟨r9, rfl, o9, b9⟩
  have B09 := Lib.hid (below_trans' B08.out b9)
  have NW := Lib.hid (xok_new (E := E) a0 a1 r8 r9 w9 (O8.out.below b9) (SliceIs.ownedK o9) SA.out SB.out (HE.out.below B09.out))
  clear o9 b9 OM B08 O8
  go_wp2_with fail
  refine NW.out.mono ?_
  rintro e w10 ⟨xb, x0, rfl, hX⟩
  have X0 := Lib.hid hX
  clear hX NW
  go_wp2_with fail
  go_loopw [10] (fun i wr => ∃ (k : Nat) (y : XS), i = .int .i64 k ∧ k ≤ a2.length ∧ XOk E w9 wr xb a0 a1 y k 0) (fun i _ => a2.length - (intOf i).toNat)
  case atStart => exact ⟨0, x0, rfl, by omega, X0.out⟩
  case round =>
    clear X0
    obtain ⟨k, y, rfl, hk, hX⟩ := hrel
    by_cases hlt : k < a2.length
    · have hltI : (k : Int) < a2.length := by omega
      obtain ⟨s', n', c', q, _, _, _, g1⟩ := (HP.out.below (below_trans' B09.out hX.bel)).get
      cases q
      obtain ⟨ad, rfl, dv⟩ := g1 k (.int .i64 (a2[k]'hlt)) (by simp [hlt])
      clear g1
      have KK := Lib.hid (show k + 1 ≤ a2.length by omega)
      have x1 : (0 : Int) ≤ k := by omega
      have x2 : (k : Int).toNat = k := by omega
      have DO := Lib.hid (xok_do (a2[k]'hlt) (HPW.out _ (List.getElem_mem _)) hX (by omega) (by omega))
      generalize a2[k]'hlt = v at *
      clear hX
      go_wp2_with fail
      refine DO.out.mono ?_
      rintro e w11 ⟨rfl, z, hZ, _⟩
      have Z := Lib.hid hZ
      clear hZ DO dv
      go_wp2_with fail
      go_roundw
      case rel => exact ⟨k + 1, z, by go_num, KK.out, Z.out⟩
      case measure => simp [intOf]; omega
    · have hltI : ¬ (k : Int) < a2.length := by omega
      have FN := Lib.hid (xok_fin hX (by omega) (by omega))
      clear hX h150
      go_wp2_with fail
      refine FN.out.mono ?_
      rintro e w11 ⟨rfl, z, hZ, hd⟩
      have Z := Lib.hid hZ
      have TO := Lib.hid (xok_to hZ)
      have TL := Lib.hid (xok_same hZ hd)
      have ZS := Lib.hid hZ.inv.tt
      clear hZ FN hd
      go_wp2_with fail
      refine TO.out.mono ?_
      rintro e w12 ⟨r12, rfl, o12, b12⟩
      have Z12 := Lib.hid (Z.out.below b12)
      have B12 := Lib.hid (below_trans' B09.out Z12.out.bel)
      have NW := Lib.hid (xok_new (E := E) z.tt [] r12 (.slice none 0 0) w12 (SliceIs.ownedK o12) (.inl ⟨rfl, rfl⟩) ZS.out nil_small (HE.out.below B12.out))
      obtain ⟨ra, rc, rfl⟩ := owns_slice o12
      clear o12 b12 TO Z
      go_wp2_with fail
      refine NW.out.mono ?_
      rintro e w13 ⟨yb, y0, rfl, hY⟩
      have FN := Lib.hid (xok_fin hY (by omega) (by omega))
      clear hY NW
      go_wp2_with fail
      refine FN.out.mono ?_
      rintro e w14 ⟨rfl, u, hU, hd⟩
      have U := Lib.hid hU
      have UL := Lib.hid ((xok_same hU hd).trans TL.out)
      have Z14 := Lib.hid (Z12.out.below hU.bel)
      have B14 := Lib.hid (below_trans' B09.out Z14.out.bel)
      clear hU hd FN Z12 B12
      go_wp2_with fail
      refine (OW2.out _ B14.out).mono ?_
      rintro e w15 ⟨r15, rfl, o15, b15⟩
      have B15 := Lib.hid (below_trans' B14.out b15)
      have U15 := Lib.hid (U.out.below b15)
      have Z15 := Lib.hid (Z14.out.below b15)
      have XE := Lib.hid (fun (w' : World) (b : Below w.heap.size w w') => HE.out.below b)
      have LA := Lib.hid (fllist_yes E a0 r15 w15 (SliceIs.ownedK o15) SA.out.wf.okx (XE.out _ B15.out).e2 (XE.out _ B15.out).e5 (XE.out _ B15.out).e8 (XE.out _ B15.out).e9 SA.out.wf)
      obtain ⟨ta, tc, rfl⟩ := owns_slice o15
      clear o15 b15 OW2 B14 U Z14
      go_wp2_with fail
      refine LA.out.mono ?_
      rintro e w16 ⟨r16, rfl, o16, b16⟩
      have O16 := Lib.hid o16
      obtain ⟨qa, qc, rfl⟩ := owns_slice o16
      have U16 := Lib.hid (U15.out.below b16)
      have Z16 := Lib.hid (Z15.out.below b16)
      have TO := Lib.hid (xok_to Z16.out)
      clear o16 b16 LA U15 Z15 B15
      go_wp2_with fail
      refine TO.out.mono ?_
      rintro e w17 ⟨r17, rfl, o17, b17⟩
      have O17 := Lib.hid (owns_below O16.out b17)
      have U17 := Lib.hid (U16.out.below b17)
      have Z17 := Lib.hid (Z16.out.below b17)
      have B17 := Lib.hid (below_trans' B09.out Z17.out.bel)
      have LB := fllist_yes E z.tt r17 w17 (SliceIs.ownedK o17) ZS.out.wf.okx (XE.out _ B17.out).e2 (XE.out _ B17.out).e5 (XE.out _ B17.out).e8 (XE.out _ B17.out).e9 ZS.out.wf
      rw [TL.out, show z.tt.length = a0.length from by have := congrArg List.length TL.out; simpa using this] at LB
      have LB := Lib.hid LB
      obtain ⟨ta, tc, rfl⟩ := owns_slice o17
      clear o17 b17 TO O16 U16 Z16
      go_wp2_with fail
      refine LB.out.mono ?_
      rintro e w18 ⟨r18, rfl, o18, b18⟩
      have P18 := Lib.hid o18
      have O18 := Lib.hid (owns_below O17.out b18)
      obtain ⟨pa, pc, rfl⟩ := owns_slice o18
      have U18 := Lib.hid (U17.out.below b18)
      have Z18 := Lib.hid (Z17.out.below b18)
      have TO := Lib.hid (xok_to U18.out)
      clear o18 b18 LB O17 U17 Z17 B17
      go_wp2_with fail
      refine TO.out.mono ?_
      rintro e w19 ⟨r19, rfl, o19, b19⟩
      have O19 := Lib.hid (owns_below O18.out b19)
      have P19 := Lib.hid (owns_below P18.out b19)
      have Z19 := Lib.hid (Z18.out.below b19)
      have B19 := Lib.hid (below_trans' B09.out Z19.out.bel)
      have US := U18.out.inv.tt.wf
      have LC := fllist_yes E u.tt r19 w19 (SliceIs.ownedK o19) US.okx (XE.out _ B19.out).e2 (XE.out _ B19.out).e5 (XE.out _ B19.out).e8 (XE.out _ B19.out).e9 US
      rw [UL.out, show u.tt.length = a0.length from by have := congrArg List.length UL.out; simpa using this] at LC
      have LC := Lib.hid LC
      obtain ⟨ta, tc, rfl⟩ := owns_slice o19
      clear o19 b19 TO O18 P18 U18 Z18 US
      go_wp2_with fail
      refine LC.out.mono ?_
      rintro e w20 ⟨r20, rfl, o20, b20⟩
      have R20 := Lib.hid o20
      have O20 := Lib.hid (owns_below O19.out b20)
      have P20 := Lib.hid (owns_below P19.out b20)
      obtain ⟨oa, oc, rfl⟩ := owns_slice o20
      have B20 := Lib.hid (below_trans' B19.out b20)
      have hql : ((a0.length : Int) != a0.length) = false := by simp
      clear o20 b20 LC O19 P19 Z19 B19
      go_wp2_with fail
      go_loopw [18] (fun i wr => ∃ j : Nat, i = .int .i64 j ∧ j ≤ a0.length ∧ Below w20.heap.size w20 wr) (fun i _ => a0.length - (intOf i).toNat)
      case atStart => exact ⟨0, rfl, by omega, Below.refl _ _⟩
      case round =>
        obtain ⟨j, rfl, hj, bel⟩ := hrel
        have BW := Lib.hid bel
        clear bel hlt hk
        by_cases hlt2 : j < a0.length
        · have hltJ : (j : Int) < a0.length := by omega
          have hltm : j < (a0.map PF.line).length := by rw [List.length_map]; exact hlt2
          obtain ⟨k0, k1, k2⟩ := lcells_get (a0.map PF.line) j hltm
          obtain ⟨s', n', c', q, _, _, _, g1⟩ := (SliceIs.ownedK (owns_below O20.out BW.out)).get
          cases q
          obtain ⟨ad, rfl, d0⟩ := g1 _ _ k0
          obtain ⟨_, q, d1⟩ := g1 _ _ k1
          cases q
          obtain ⟨_, q, d2⟩ := g1 _ _ k2
          cases q
          clear g1
          obtain ⟨s', n', c', q, _, _, _, g1⟩ := (SliceIs.ownedK (owns_below P20.out BW.out)).get
          cases q
          obtain ⟨ae, rfl, e0⟩ := g1 _ _ k0
          obtain ⟨_, q, e1⟩ := g1 _ _ k1
          cases q
          obtain ⟨_, q, e2⟩ := g1 _ _ k2
          cases q
          clear g1
          obtain ⟨s', n', c', q, _, _, _, g1⟩ := (SliceIs.ownedK (owns_below R20.out BW.out)).get
          cases q
          obtain ⟨af, rfl, f0⟩ := g1 _ _ k0
          obtain ⟨_, q, f1⟩ := g1 _ _ k1
          cases q
          obtain ⟨_, q, f2⟩ := g1 _ _ k2
          cases q
          clear g1 k0 k1 k2
          have d1 := cell_at d1
          have d2 := cell_at d2
          have e1 := cell_at e1
          have e2 := cell_at e2
          have f1 := cell_at f1
          have f2 := cell_at f2
          have KK := Lib.hid (show j + 1 ≤ a0.length by omega)
          have x1 : (0 : Int) ≤ j := by omega
          have x2 : (j : Int).toNat = j := by omega
          generalize (a0.map PF.line)[j]'hltm = ln at *
          have EQ := lnb_not ln
          clear hltm hlt2
          go_wp2_with fail
          go_quiet (fail)
          go_wp2_with fail
          go_roundw
          case rel => exact ⟨j + 1, by go_num, KK.out, below_drewN BW.out _⟩
          case measure => simp [intOf]; omega
        · have hltJ : ¬ (j : Int) < a0.length := by omega
          go_wp2_with fail
          go_ret
          exact ⟨rfl, below_trans' B20.out BW.out⟩
end Go.Proofs.YtdpoalbbcmkceaaGreatDoor
