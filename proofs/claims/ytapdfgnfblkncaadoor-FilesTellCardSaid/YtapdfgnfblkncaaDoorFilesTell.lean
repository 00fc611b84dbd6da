/- FilesTell: what package files tells is the document's: any files, any name. -/
import Derived.Test.YtapdfgnfblkncaaDoorFiled
import Derived.Test.YtapdfgnfblkncaaDoorRefPut
import Derived.Test.YtapdfgnfblkncaaDoorRefList
import Derived.Test.YtapdfgnfblkncaaDoorRefFilGet
import Derived.Test.YtapdfgnfblkncaaDoorRefDrop
import Derived.Test.YtapdfgnfblkncaaDoorCode
import Derived.Test.YtapdfgnfblkncaaDoorArgFil
namespace Go.Proofs.YtapdfgnfblkncaaDoor
open Go.RowKit
set_option linter.unusedVariables false

theorem longFB_no {l : List PF} {most : Nat} (h : longFB l most = false) : l.length ≤ 25 ∧ ∀ f ∈ l, f.n.length ≤ 30 ∧ (f.d.length ≤ most ∨ f.d.length = 4001) := by
  unfold longFB at h
  rw [Bool.or_eq_false_iff] at h
  obtain ⟨h1, h2⟩ := h
  rw [List.any_eq_false] at h2
  refine ⟨by simpa using h1, fun f hf => ?_⟩
  have := h2 f hf
  unfold longF at this
  simp at this
  omega
theorem flFault_le (l : List PF) : (flFault l).1 ≤ 12 := lnFault_le _
theorem flFault_fine {l : List PF} (h : (flFault l).1 = 0) : flFault l = (0, -1) := lnFault_zero h
theorem csum_small (l : List PF) : ∀ x ∈ l.map PF.line, x.S < 4294967296 := by
  intro x hx
  obtain ⟨f, _, rfl⟩ := List.mem_map.1 hx
  exact csum_lt _
def putX (l : List PF) (n d : List UInt8) : List PF × Nat × Int := if (flFault l).1 ≠ 0 then ([], flFault l) else if (flFault (fputL l n d)).1 ≠ 0 then ([], flFault (fputL l n d)) else (fputL l n d, flFault (fputL l n d))
theorem putX_bad {l : List PF} {n d : List UInt8} (h : (flFault l).1 ≠ 0) : putX l n d = ([], flFault l) := by unfold putX; rw [if_pos h]
theorem putX_no {l : List PF} {n d : List UInt8} (h : (flFault l).1 = 0) (h2 : (flFault (fputL l n d)).1 ≠ 0) : putX l n d = ([], flFault (fputL l n d)) := by unfold putX; rw [if_neg (by simp [h]), if_pos h2]
theorem putX_yes {l : List PF} {n d : List UInt8} (h : (flFault l).1 = 0) (h2 : (flFault (fputL l n d)).1 = 0) : putX l n d = (fputL l n d, flFault (fputL l n d)) := by unfold putX; rw [if_neg (by simp [h]), if_neg (by simp [h2])]
theorem putX_le (l : List PF) (n d : List UInt8) : (putX l n d).2.1 ≤ 12 := by
  by_cases h : (flFault l).1 = 0
  · by_cases h2 : (flFault (fputL l n d)).1 = 0
    · rw [putX_yes h h2]; exact flFault_le _
    · rw [putX_no h h2]; exact flFault_le _
  · rw [putX_bad h]; exact flFault_le _
theorem nil_row (w : World) : SliceIs w (.slice none 0 0) 2 (fcells []) := .inl ⟨rfl, by rw [fcells_nil]⟩
theorem put_same (E : Nat → Addr) (l : List PF) (v : Value) (n d : List UInt8) (w : World) (hl : SliceIs w v 2 (fcells l)) (hd : FOk l) (hlen : l.length ≤ 1000000) (hdd : d.length ≤ maxLen) (hnn : n.length ≤ maxLen) (hB : Has E w 2) (hN : Has E w 5) (hF : Has E w 8) (hO : Has E w 9) :
    Calls Tryd.prog 33 #[v, .string (bs n), .string (bs d)] w fun e w' => ∃ r er, e = .returned (.tuple #[r, er]) ∧ FErr E w' er (putX l n d).2.1 (putX l n d).2.2 ∧ SliceIs w' r 2 (fcells (putX l n d).1) ∧ Below w.heap.size w w' := by
  by_cases h : (flFault l).1 = 0
  · have hf := (flFault_wf l).1 h
    have main : Calls Tryd.prog 33 #[v, .string (bs n), .string (bs d)] w fun e w' => ∃ r er, e = .returned (.tuple #[r, er]) ∧ FErr E w' er (flFault (fputL l n d)).1 (flFault (fputL l n d)).2 ∧ ((flFault (fputL l n d)).1 = 0 → w'.ownsRow w.heap.size 75 2 r (fputL l n d).length (fcells (fputL l n d))) ∧ ((flFault (fputL l n d)).1 ≠ 0 → r = .slice none 0 0) ∧ Below w.heap.size w w' := by
      cases hg : fgetL l n with
      | none => exact flput_new E l v n d w hl hd hdd hnn hB hN hF hO hf hg
      | some x => exact flput_there E l v n d w hl hd hdd hnn hB hN hF hO hf (by rw [hg]; rfl)
    refine main.mono ?_
    rintro e w' ⟨r, er, rfl, fe, h1, h2, b⟩
    by_cases h3 : (flFault (fputL l n d)).1 = 0
    · rw [putX_yes h h3]; exact ⟨r, er, rfl, fe, SliceIs.ownedK (h1 h3), b⟩
    · rw [putX_no h h3]; obtain rfl := h2 h3; exact ⟨_, er, rfl, fe, nil_row _, b⟩
  · rw [putX_bad h]
    refine (flput_bad E l v n d w hl hd hlen hB hN hF hO h).mono ?_
    rintro e w' ⟨r, rfl, fe, b⟩
    exact ⟨_, r, rfl, fe, nil_row _, b⟩
theorem putOf_same (l : List PF) (v : Value) (n d : List UInt8) (w : World) (hl : SliceIs w v 2 (fcells l)) (hd : FOk l) (hnm : ∀ x ∈ l, x.n.length ≤ 1000000000 ∧ x.d.length ≤ 1000000000) (hlen : l.length ≤ 1000000) (hn : n.length ≤ 1000000000) (hdd : d.length ≤ 1000000000) :
    Calls Tryd.prog 44 #[v, .string (bs n), .string (bs d)] w fun e w' => ∃ r, e = .returned (.tuple #[r, rfv (putX l n d).2]) ∧ SliceIs w' r 2 (fcells (putX l n d).1) ∧ Below w.heap.size w w' := by
  by_cases h : (flFault l).1 = 0
  · refine (putOf_ok l v n d w hl hd ((flFault_wf l).1 h) hn hdd).mono ?_
    rintro e w' ⟨r, rfl, h1, h2, b⟩
    by_cases h3 : (flFault (fputL l n d)).1 = 0
    · rw [putX_yes h h3]; exact ⟨r, rfl, SliceIs.ownedK (h1 h3), b⟩
    · rw [putX_no h h3]; obtain rfl := h2 h3; exact ⟨_, rfl, nil_row _, b⟩
  · rw [putX_bad h]
    refine (putOf_bad l v n d w hl hnm hlen h).mono ?_
    rintro e w' ⟨rfl, b⟩
    exact ⟨_, rfl, nil_row _, b⟩
attribute [local irreducible] putX

set_option maxRecDepth 100000 in
set_option maxHeartbeats 12800000 in
theorem filesTell_walk (E : Nat → Addr) (s0 : Option Addr) (n0 c0 : Nat) (a0 : List PF) (a1 : ByteArray) (a2 : ByteArray) (w : World) (hl0 : SliceIs w (.slice s0 n0 c0) PF.cells (a0.flatMap PF.vals) ∧ ∀ x ∈ a0, x.ok) (hs1 : a1.size ≤ maxLen) (hs2 : a2.size ≤ maxLen) (hh : Hand w) (h1 : ∀ c ∈ [1, 2, 3, 4, 5, 6, 7, 8, 9, 10, 11, 12], Has E w c ∧ Sent w (E c)) (h2 : ∀ c ∈ [1, 2, 3, 4, 5, 6, 7, 8, 9, 10, 11, 12], ∀ c' ∈ [1, 2, 3, 4, 5, 6, 7, 8, 9, 10, 11, 12], c ≠ c' → E c ≠ E c') :
    Calls Tryd.prog 6 #[.slice s0 n0 c0, .string a1, .string a2] w fun e w' => e = .returned (.bool true) ∧ Below w.heap.size w w' := by
  obtain ⟨hl, hok⟩ := hl0
  rw [PF.vals_is] at hl
  have hl : SliceIs w (.slice s0 n0 c0) 2 (fcells a0) := hl
  have HOK := Lib.hid (show FOk a0 from hok)
  have HE := Lib.hid (Errs.of hh h1 h2)
  obtain ⟨n1, rfl⟩ : ∃ l, a1 = bs l := ⟨a1.data.toList, (bs_of a1).symm⟩
  obtain ⟨n2, rfl⟩ : ∃ l, a2 = bs l := ⟨a2.data.toList, (bs_of a2).symm⟩
  have z1 : (bs n1).size = n1.length := bs_size _
  have z2 : (bs n2).size = n2.length := bs_size _
  rw [z1] at hs1
  rw [z2] at hs2
  have hlen : n0 = a0.length := by
    obtain ⟨s', n', c', e, e2, _⟩ := hl.get
    cases e
    rw [fcells_len] at e2; omega
  subst hlen
  have HL := Lib.hid hl
  have FO := Lib.hid (fun (w' : World) (b : Below w.heap.size w w') => filed_ok E w' ((HE.out.has 2 (by omega) (by omega)).below b) ((HE.out.has 5 (by omega) (by omega)).below b) ((HE.out.has 8 (by omega) (by omega)).below b) ((HE.out.has 9 (by omega) (by omega)).below b))
  have LO := Lib.hid (fun (w' : World) (b : Below w.heap.size w w') => longFiles_any a0 _ 200 w' (HL.out.below b) (by omega) HOK.out)
  clear hl hok hh h1 h2
  by_cases hL : longFB a0 200 = true
  · rw [longN_t hL] at LO
    clear hL
    go_enter Tryd.func6, Tryd.ntmps6
    go_wp2_with fail
    refine (FO.out _ (Below.refl _ _)).mono ?_
    rintro e w1 ⟨rfl, b1⟩
    go_wp2_with fail
    refine (LO.out _ b1).mono ?_
    rintro e w2 ⟨rfl, b2⟩
    have b02 := below_trans' b1 b2
    go_wp2_with fail
    go_ret
    exact ⟨rfl, b02⟩
  have hL : longFB a0 200 = false := by simpa using hL
  rw [longN_f hL] at LO
  by_cases hN : 30 < n1.length
  · have hNI : (30 : Int) < n1.length := by omega
    go_enter Tryd.func6, Tryd.ntmps6
    go_wp2_with fail
    refine (FO.out _ (Below.refl _ _)).mono ?_
    rintro e w1 ⟨rfl, b1⟩
    go_wp2_with fail
    refine (LO.out _ b1).mono ?_
    rintro e w2 ⟨rfl, b2⟩
    have b02 := below_trans' b1 b2
    go_wp2_with fail
    go_ret
    exact ⟨rfl, b02⟩
  have hNI : ¬ (30 : Int) < n1.length := by omega
  by_cases hD : 200 < n2.length ∧ n2.length ≠ 4001
  · have hDI : (200 : Int) < n2.length := by omega
    have hDJ : ((n2.length : Int) != 4001) = true := by rw [bne_iff_ne]; omega
    go_enter Tryd.func6, Tryd.ntmps6
    go_wp2_with fail
    refine (FO.out _ (Below.refl _ _)).mono ?_
    rintro e w1 ⟨rfl, b1⟩
    go_wp2_with fail
    refine (LO.out _ b1).mono ?_
    rintro e w2 ⟨rfl, b2⟩
    have b02 := below_trans' b1 b2
    go_wp2_with fail
    go_ret
    exact ⟨rfl, b02⟩
  have hDI : ¬ (200 : Int) < n2.length ∨ (200 : Int) < n2.length ∧ ((n2.length : Int) != 4001) = false := by
    by_cases h : 200 < n2.length
    · exact .inr ⟨by omega, by rw [bne_eq_false_iff_eq]; omega⟩
    · exact .inl (by omega)
  have hd4 : n2.length ≤ 4001 := by omega
  obtain ⟨h25, hea⟩ := longFB_no hL
  have HEA := Lib.hid (show ∀ x ∈ a0, x.n.length ≤ 30 ∧ x.d.length ≤ 4001 from fun x hx => by have := hea x hx; omega)
  clear hL hN hD hea
  have OW := Lib.hid (fun (w' : World) (b : Below w.heap.size w w') => ownFiles_any a0 _ w' (HL.out.below b) (by omega))
  have FF := Lib.hid (fun (w' : World) (b : Below w.heap.size w w') => filesFault_any a0 _ w' (HL.out.below b) (fun x hx => by have := HEA.out x hx; omega) (by omega))
  have ISN := Lib.hid (fun (w' : World) => isName_any n1 w' (by omega))
  have HM1 : Hid (n1.length ≤ maxLen) := hs1
  have HM2 : Hid (n2.length ≤ maxLen) := hs2
  clear hs1 hs2
  go_enter Tryd.func6, Tryd.ntmps6
  go_wp2_with fail
  refine (FO.out _ (Below.refl _ _)).mono ?_
  rintro e w1 ⟨rfl, b1⟩
  go_wp2_with fail
  refine (LO.out _ b1).mono ?_
  rintro e w2 ⟨rfl, b2⟩
  have b02 := below_trans' b1 b2
  clear b1 b2 FO LO
  rcases hDI with hDI | ⟨hDI, hDJ⟩
  case inl =>
    go_wp2_with fail
    refine (OW.out _ b02).mono ?_
    rintro e w3 ⟨r, rfl, o3, b3⟩
    have SO3 := Lib.hid (SliceIs.ownedK o3)
    have B3 := Lib.hid (below_trans' b02 b3)
    obtain ⟨va, vc, rfl⟩ := owns_slice o3
    clear o3 b02 b3 OW
    go_wp2_with fail
    refine (ISN.out _).mono ?_
    rintro e w4 ⟨rfl, rfl⟩
    clear ISN
    go_wp2_with fail
    refine (FF.out _ B3.out).mono ?_
    rintro e w5 ⟨rfl, b5⟩
    rw [rfv_is]
    have hy := heap_alloc_new w5 (.cells #[.int .i64 (flFault a0).1, .int .i64 (flFault a0).2] 85)
    have b06 := (below_trans' B3.out b5).alloc (below_trans' B3.out b5).size (.cells #[.int .i64 (flFault a0).1, .int .i64 (flFault a0).2] 85)
    have b36 := b5.alloc b5.size (.cells #[.int .i64 (flFault a0).1, .int .i64 (flFault a0).2] 85)
    clear b5 FF
    go_wp2_with fail
    have SL6 := Lib.hid (HL.out.below b06)
    have SO6 := Lib.hid (SO3.out.below b36)
    have HE6 := Lib.hid (HE.out.below b06)
    have B06 := Lib.hid b06
    have q12 := flFault_le a0
    have CK := Lib.hid (fun (w' : World) (b : Below (w5.alloc (.cells #[.int .i64 (flFault a0).1, .int .i64 (flFault a0).2] 85)).heap.size (w5.alloc (.cells #[.int .i64 (flFault a0).1, .int .i64 (flFault a0).2] 85)) w') => flcheck_any E a0 _ w' (SO6.out.below b) HOK.out (by omega) ((HE6.out.has 2 (by omega) (by omega)).below b) ((HE6.out.has 5 (by omega) (by omega)).below b) ((HE6.out.has 8 (by omega) (by omega)).below b) ((HE6.out.has 9 (by omega) (by omega)).below b))
    have DRP := Lib.hid (fun (w' : World) (b : Below (w5.alloc (.cells #[.int .i64 (flFault a0).1, .int .i64 (flFault a0).2] 85)).heap.size (w5.alloc (.cells #[.int .i64 (flFault a0).1, .int .i64 (flFault a0).2] 85)) w') => fldrop_any a0 _ n1 w' (SO6.out.below b) (by omega))
    have DRO := Lib.hid (fun (w' : World) (b : Below (w5.alloc (.cells #[.int .i64 (flFault a0).1, .int .i64 (flFault a0).2] 85)).heap.size (w5.alloc (.cells #[.int .i64 (flFault a0).1, .int .i64 (flFault a0).2] 85)) w') => dropOf_any a0 _ n1 w' (SL6.out.below b) (by omega))
    have NM := Lib.hid (fun (w' : World) => flname_any n1 w' HM1.out)
    have GE := Lib.hid (fun (w' : World) (b : Below (w5.alloc (.cells #[.int .i64 (flFault a0).1, .int .i64 (flFault a0).2] 85)).heap.size (w5.alloc (.cells #[.int .i64 (flFault a0).1, .int .i64 (flFault a0).2] 85)) w') => flget_any a0 _ n1 w' (SO6.out.below b))
    have GO := Lib.hid (fun (w' : World) (b : Below (w5.alloc (.cells #[.int .i64 (flFault a0).1, .int .i64 (flFault a0).2] 85)).heap.size (w5.alloc (.cells #[.int .i64 (flFault a0).1, .int .i64 (flFault a0).2] 85)) w') => getOf_any a0 _ n1 w' (SL6.out.below b))
    have PU := Lib.hid (fun (w' : World) (b : Below (w5.alloc (.cells #[.int .i64 (flFault a0).1, .int .i64 (flFault a0).2] 85)).heap.size (w5.alloc (.cells #[.int .i64 (flFault a0).1, .int .i64 (flFault a0).2] 85)) w') => put_same E a0 _ n1 n2 w' (SO6.out.below b) HOK.out (by omega) HM2.out HM1.out ((HE6.out.has 2 (by omega) (by omega)).below b) ((HE6.out.has 5 (by omega) (by omega)).below b) ((HE6.out.has 8 (by omega) (by omega)).below b) ((HE6.out.has 9 (by omega) (by omega)).below b))
    have PO := fun (w' : World) (b : Below (w5.alloc (.cells #[.int .i64 (flFault a0).1, .int .i64 (flFault a0).2] 85)).heap.size (w5.alloc (.cells #[.int .i64 (flFault a0).1, .int .i64 (flFault a0).2] 85)) w') => putOf_same a0 _ n1 n2 w' (SL6.out.below b) HOK.out (fun x hx => by have := HEA.out x hx; omega) (by omega) (by omega) (by omega)
    simp only [rfv_is] at PO
    have HPO := Lib.hid PO
    have p12 := putX_le a0 n1 n2
    have SX := Lib.hid (fun (r1 r2 : Value) (w' : World) h1 h2 => sameFiles_is (putX a0 n1 n2).1 (putX a0 n1 n2).1 r1 r2 w' h1 h2)
    have SD := Lib.hid (fun (r1 r2 : Value) (w' : World) h1 h2 => sameFiles_is (dropL a0 n1) (dropL a0 n1) r1 r2 w' h1 h2)
    have SF := Lib.hid (fun (w' : World) (b : Below (w5.alloc (.cells #[.int .i64 (flFault a0).1, .int .i64 (flFault a0).2] 85)).heap.size (w5.alloc (.cells #[.int .i64 (flFault a0).1, .int .i64 (flFault a0).2] 85)) w') => sameFiles_is a0 a0 _ _ w' (SO6.out.below b) (SL6.out.below b))
    rw [beq_self_eq_true] at SX SD SF
    have LN := Lib.hid (fun (w' : World) (b : Below (w5.alloc (.cells #[.int .i64 (flFault a0).1, .int .i64 (flFault a0).2] 85)).heap.size (w5.alloc (.cells #[.int .i64 (flFault a0).1, .int .i64 (flFault a0).2] 85)) w') (h : (flFault a0).1 ≠ 0) => fllist_no E a0 _ w' (SO6.out.below b) HOK.out (by omega) ((HE6.out.has 2 (by omega) (by omega)).below b) ((HE6.out.has 5 (by omega) (by omega)).below b) ((HE6.out.has 8 (by omega) (by omega)).below b) ((HE6.out.has 9 (by omega) (by omega)).below b) h)
    have LY := Lib.hid (fun (w' : World) (b : Below (w5.alloc (.cells #[.int .i64 (flFault a0).1, .int .i64 (flFault a0).2] 85)).heap.size (w5.alloc (.cells #[.int .i64 (flFault a0).1, .int .i64 (flFault a0).2] 85)) w') (h : (flFault a0).1 = 0) => fllist_yes E a0 _ w' (SO6.out.below b) HOK.out ((HE6.out.has 2 (by omega) (by omega)).below b) ((HE6.out.has 5 (by omega) (by omega)).below b) ((HE6.out.has 8 (by omega) (by omega)).below b) ((HE6.out.has 9 (by omega) (by omega)).below b) ((flFault_wf a0).1 h))
    have LOF := Lib.hid (fun (w' : World) (b : Below (w5.alloc (.cells #[.int .i64 (flFault a0).1, .int .i64 (flFault a0).2] 85)).heap.size (w5.alloc (.cells #[.int .i64 (flFault a0).1, .int .i64 (flFault a0).2] 85)) w') => listOf_any a0 _ w' (SL6.out.below b) (fun x hx => by have := HEA.out x hx; omega) (by omega))
    have SLN := Lib.hid (fun (r1 r2 : Value) (w' : World) h1 h2 => sameLines_yes (a0.map PF.line) r1 r2 w' h1 h2 (csum_small a0))
    rw [line_pm] at SLN
    generalize w5.alloc (.cells #[.int .i64 (flFault a0).1, .int .i64 (flFault a0).2] 85) = w6 at *
    generalize flFault a0 = q at *
    generalize putX a0 n1 n2 = px at *
    obtain ⟨X, p⟩ := px
    simp only [] at PU HPO p12 SX
    generalize w5.heap.size = g at *
    generalize nameB n1 = nb at *
    generalize (fgetL a0 n1).isSome = gs at *
    generalize (fgetL a0 n1).getD [] = gd at *
    have FB := Lib.hid (fun (w' : World) (b : Below w6.heap.size w6 w') => show w'.cell? ⟨g, 0, none⟩ = some (.int .i64 (q.1 : Nat)) ∧ w'.cell? ⟨g, 1, none⟩ = some (.int .i64 q.2) from by
      have h := (b.block g (lt_of_block hy)).trans hy
      constructor <;> simp [World.cell?, h])
    have DD : Hid (∀ w' : World, Below w6.heap.size w6 w' → (w'.cell? ⟨g, 0, none⟩ = some (.int .i64 (q.1 : Nat)) ∧ w'.cell? ⟨g, 1, none⟩ = some (.int .i64 q.2)) ∧ Below w6.heap.size w6 w') := fun w' b => ⟨FB.out w' b, b⟩
    have b66 := Below.refl w6.heap.size w6
    have S6 := DD.out w6 b66
    clear hy b06 b36 SO3 B3 HL HE
    go_region_held3 (fun w' => (w'.cell? ⟨g, 0, none⟩ = some (.int .i64 (q.1 : Nat)) ∧ w'.cell? ⟨g, 1, none⟩ = some (.int .i64 q.2)) ∧ Below w6.heap.size w6 w') (first | assumption | exact S6 | exact DD.out _ (by assumption) | exact DD.out _ (Below.drew b66))
      (first
      | (go_at_call 38; refine (NM.out _).mono ?_; rintro e w7 ⟨rfl, b7⟩; have bb7 := below_trans' (by first | assumption | exact Below.drew b66) b7; have SS7 := DD.out _ bb7)
      | (go_at_call 40; refine (CK.out _ ?_).mono ?_; (first | assumption | exact Below.drew b66); rintro e w8 ⟨r8, rfl, fe8, b8⟩; have bb8 := below_trans' (by first | assumption | exact Below.drew b66) b8; have SS8 := DD.out _ bb8)
      | (go_at_call 39; refine (faulted_yes E r8 q.1 q.2 _ fe8 ?_ q12).mono ?_; (exact HE6.out.below (by assumption)); rintro e w9 ⟨rfl, b9⟩; have bb9 := below_trans' (by assumption) b9; have SS9 := DD.out _ bb9))
    have c9 := bb9
    clear CK NM
    clear S6
    go_wp2_with fail
    refine (GE.out _ c9).mono ?_
    rintro e wa ⟨rfl, ba⟩
    have ca := below_trans' c9 ba
    clear c9 ba GE
    go_wp2_with fail
    refine (GO.out _ ca).mono ?_
    rintro e wb ⟨rfl, bb⟩
    have cb := below_trans' ca bb
    clear ca bb GO
    go_wp2_with fail
    refine (DRP.out _ cb).mono ?_
    rintro e wc ⟨rd, rfl, oc, bc⟩
    have cc := below_trans' cb bc
    have OC := Lib.hid (SliceIs.ownedK oc)
    clear cb bc oc DRP
    go_wp2_with fail
    refine (DRO.out _ cc).mono ?_
    rintro e wd ⟨rf, rfl, od, bd⟩
    have cd := below_trans' cc bd
    have OCd := Lib.hid (OC.out.below bd)
    have OD := Lib.hid (SliceIs.ownedK od)
    clear cc bd od DRO
    go_wp2_with fail
    refine (SD.out _ _ _ OCd.out OD.out).mono ?_
    rintro e we ⟨rfl, me, rfl⟩
    have ce := below_drewN cd me
    generalize wd.drewN me = we at *
    clear cd SD OCd OD OC
    go_wp2_with fail
    refine (PU.out _ ce).mono ?_
    rintro e wf ⟨rx, er, rfl, fe, sx, bf⟩
    have cf := below_trans' ce bf
    have SXf := Lib.hid sx
    have FEf := Lib.hid fe
    clear ce bf PU sx fe
    go_wp2_with fail
    refine (HPO.out _ cf).mono ?_
    rintro e wg ⟨ry, rfl, sy, bg⟩
    have cg := below_trans' cf bg
    have hz := heap_alloc_new wg (.cells #[.int .i64 (p.1 : Nat), .int .i64 p.2] 85)
    have ch := cg.alloc cg.size (.cells #[.int .i64 (p.1 : Nat), .int .i64 p.2] 85)
    have bgh := bg.alloc bg.size (.cells #[.int .i64 (p.1 : Nat), .int .i64 p.2] 85)
    have SXh := Lib.hid (SXf.out.below bgh)
    have SYh := Lib.hid (sy.below (below_one wg (.cells #[.int .i64 (p.1 : Nat), .int .i64 p.2] 85)))
    have FEh := Lib.hid (FEf.out.below bgh)
    clear cf bg cg sy bgh SXf FEf HPO
    go_wp2_with fail
    generalize wg.alloc (.cells #[.int .i64 (p.1 : Nat), .int .i64 p.2] 85) = wh at *
    generalize wg.heap.size = g2 at *
    refine (faulted_yes E er p.1 p.2 _ FEh.out (HE6.out.below ch) p12).mono ?_
    rintro e wi ⟨rfl, bi⟩
    have ci := below_trans' ch bi
    have SXi := Lib.hid (SXh.out.below bi)
    have SYi := Lib.hid (SYh.out.below bi)
    clear ch bi SXh SYh FEh hz
    go_wp2_with fail
    refine (SX.out _ _ _ SXi.out SYi.out).mono ?_
    rintro e wj ⟨rfl, mj, rfl⟩
    have cj := below_drewN ci mj
    generalize wi.drewN mj = wj at *
    clear ci SX SXi SYi
    by_cases hq : q.1 = 0
    · have hqI : ¬ (0 : Int) < q.1 := by omega
      have LY2 := Lib.hid (LY.out _ cj hq)
      have SFj := SF
      clear LY LN hq
      go_wp2_with fail
      refine LY2.out.mono ?_
      rintro e wk ⟨rl, rfl, ok, bk⟩
      have ck := below_trans' cj bk
      have RLk := Lib.hid (SliceIs.ownedK ok)
      obtain ⟨c0', c1'⟩ := FB.out wk ck
      clear cj bk ok LY2
      go_wp2_with fail
      refine (LOF.out _ ck).mono ?_
      rintro e wl ⟨rm, rfl, ol, bl⟩
      have cl := below_trans' ck bl
      have RLl := Lib.hid (RLk.out.below bl)
      have RMl := Lib.hid (SliceIs.ownedK ol)
      clear ck bl ol RLk LOF c0' c1'
      go_wp2_with fail
      refine (SLN.out _ _ _ RLl.out RMl.out).mono ?_
      rintro e wm ⟨rfl, mm, rfl⟩
      have cm := below_drewN cl mm
      generalize wl.drewN mm = wm at *
      clear cl RLl RMl SLN
      go_wp2_with fail
      refine (SF.out _ cm).mono ?_
      rintro e wn ⟨rfl, mn, rfl⟩
      have cn := below_drewN cm mn
      go_wp2_with fail
      go_ret
      exact ⟨rfl, below_trans' B06.out cn⟩
    · have hqI : (0 : Int) < q.1 := by omega
      have LN2 := Lib.hid (LN.out _ cj hq)
      clear LY LN hq
      go_wp2_with fail
      refine LN2.out.mono ?_
      rintro e wk ⟨el, rfl, fl, bk⟩
      have ck := below_trans' cj bk
      have FLk := Lib.hid fl
      obtain ⟨c0', c1'⟩ := FB.out wk ck
      clear cj bk fl LN2
      go_wp2_with fail
      refine (faulted_yes E el q.1 q.2 _ FLk.out (HE6.out.below ck) q12).mono ?_
      rintro e wl ⟨rfl, bl⟩
      have cl := below_trans' ck bl
      go_wp2_with fail
      go_ret
      exact ⟨rfl, below_trans' B06.out cl⟩
  case inr =>
    go_wp2_with fail
    refine (OW.out _ b02).mono ?_
    rintro e w3 ⟨r, rfl, o3, b3⟩
    have SO3 := Lib.hid (SliceIs.ownedK o3)
    have B3 := Lib.hid (below_trans' b02 b3)
    obtain ⟨va, vc, rfl⟩ := owns_slice o3
    clear o3 b02 b3 OW
    go_wp2_with fail
    refine (ISN.out _).mono ?_
    rintro e w4 ⟨rfl, rfl⟩
    clear ISN
    go_wp2_with fail
    refine (FF.out _ B3.out).mono ?_
    rintro e w5 ⟨rfl, b5⟩
    rw [rfv_is]
    have hy := heap_alloc_new w5 (.cells #[.int .i64 (flFault a0).1, .int .i64 (flFault a0).2] 85)
    have b06 := (below_trans' B3.out b5).alloc (below_trans' B3.out b5).size (.cells #[.int .i64 (flFault a0).1, .int .i64 (flFault a0).2] 85)
    have b36 := b5.alloc b5.size (.cells #[.int .i64 (flFault a0).1, .int .i64 (flFault a0).2] 85)
    clear b5 FF
    go_wp2_with fail
    have SL6 := Lib.hid (HL.out.below b06)
    have SO6 := Lib.hid (SO3.out.below b36)
    have HE6 := Lib.hid (HE.out.below b06)
    have B06 := Lib.hid b06
    have q12 := flFault_le a0
    have CK := Lib.hid (fun (w' : World) (b : Below (w5.alloc (.cells #[.int .i64 (flFault a0).1, .int .i64 (flFault a0).2] 85)).heap.size (w5.alloc (.cells #[.int .i64 (flFault a0).1, .int .i64 (flFault a0).2] 85)) w') => flcheck_any E a0 _ w' (SO6.out.below b) HOK.out (by omega) ((HE6.out.has 2 (by omega) (by omega)).below b) ((HE6.out.has 5 (by omega) (by omega)).below b) ((HE6.out.has 8 (by omega) (by omega)).below b) ((HE6.out.has 9 (by omega) (by omega)).below b))
    have DRP := Lib.hid (fun (w' : World) (b : Below (w5.alloc (.cells #[.int .i64 (flFault a0).1, .int .i64 (flFault a0).2] 85)).heap.size (w5.alloc (.cells #[.int .i64 (flFault a0).1, .int .i64 (flFault a0).2] 85)) w') => fldrop_any a0 _ n1 w' (SO6.out.below b) (by omega))
    have DRO := Lib.hid (fun (w' : World) (b : Below (w5.alloc (.cells #[.int .i64 (flFault a0).1, .int .i64 (flFault a0).2] 85)).heap.size (w5.alloc (.cells #[.int .i64 (flFault a0).1, .int .i64 (flFault a0).2] 85)) w') => dropOf_any a0 _ n1 w' (SL6.out.below b) (by omega))
    have NM := Lib.hid (fun (w' : World) => flname_any n1 w' HM1.out)
    have GE := Lib.hid (fun (w' : World) (b : Below (w5.alloc (.cells #[.int .i64 (flFault a0).1, .int .i64 (flFault a0).2] 85)).heap.size (w5.alloc (.cells #[.int .i64 (flFault a0).1, .int .i64 (flFault a0).2] 85)) w') => flget_any a0 _ n1 w' (SO6.out.below b))
    have GO := Lib.hid (fun (w' : World) (b : Below (w5.alloc (.cells #[.int .i64 (flFault a0).1, .int .i64 (flFault a0).2] 85)).heap.size (w5.alloc (.cells #[.int .i64 (flFault a0).1, .int .i64 (flFault a0).2] 85)) w') => getOf_any a0 _ n1 w' (SL6.out.below b))
    have PU := Lib.hid (fun (w' : World) (b : Below (w5.alloc (.cells #[.int .i64 (flFault a0).1, .int .i64 (flFault a0).2] 85)).heap.size (w5.alloc (.cells #[.int .i64 (flFault a0).1, .int .i64 (flFault a0).2] 85)) w') => put_same E a0 _ n1 n2 w' (SO6.out.below b) HOK.out (by omega) HM2.out HM1.out ((HE6.out.has 2 (by omega) (by omega)).below b) ((HE6.out.has 5 (by omega) (by omega)).below b) ((HE6.out.has 8 (by omega) (by omega)).below b) ((HE6.out.has 9 (by omega) (by omega)).below b))
    have PO := fun (w' : World) (b : Below (w5.alloc (.cells #[.int .i64 (flFault a0).1, .int .i64 (flFault a0).2] 85)).heap.size (w5.alloc (.cells #[.int .i64 (flFault a0).1, .int .i64 (flFault a0).2] 85)) w') => putOf_same a0 _ n1 n2 w' (SL6.out.below b) HOK.out (fun x hx => by have := HEA.out x hx; omega) (by omega) (by omega) (by omega)
    simp only [rfv_is] at PO
    have HPO := Lib.hid PO
    have p12 := putX_le a0 n1 n2
    have SX := Lib.hid (fun (r1 r2 : Value) (w' : World) h1 h2 => sameFiles_is (putX a0 n1 n2).1 (putX a0 n1 n2).1 r1 r2 w' h1 h2)
    have SD := Lib.hid (fun (r1 r2 : Value) (w' : World) h1 h2 => sameFiles_is (dropL a0 n1) (dropL a0 n1) r1 r2 w' h1 h2)
    have SF := Lib.hid (fun (w' : World) (b : Below (w5.alloc (.cells #[.int .i64 (flFault a0).1, .int .i64 (flFault a0).2] 85)).heap.size (w5.alloc (.cells #[.int .i64 (flFault a0).1, .int .i64 (flFault a0).2] 85)) w') => sameFiles_is a0 a0 _ _ w' (SO6.out.below b) (SL6.out.below b))
    rw [beq_self_eq_true] at SX SD SF
    have LN := Lib.hid (fun (w' : World) (b : Below (w5.alloc (.cells #[.int .i64 (flFault a0).1, .int .i64 (flFault a0).2] 85)).heap.size (w5.alloc (.cells #[.int .i64 (flFault a0).1, .int .i64 (flFault a0).2] 85)) w') (h : (flFault a0).1 ≠ 0) => fllist_no E a0 _ w' (SO6.out.below b) HOK.out (by omega) ((HE6.out.has 2 (by omega) (by omega)).below b) ((HE6.out.has 5 (by omega) (by omega)).below b) ((HE6.out.has 8 (by omega) (by omega)).below b) ((HE6.out.has 9 (by omega) (by omega)).below b) h)
    have LY := Lib.hid (fun (w' : World) (b : Below (w5.alloc (.cells #[.int .i64 (flFault a0).1, .int .i64 (flFault a0).2] 85)).heap.size (w5.alloc (.cells #[.int .i64 (flFault a0).1, .int .i64 (flFault a0).2] 85)) w') (h : (flFault a0).1 = 0) => fllist_yes E a0 _ w' (SO6.out.below b) HOK.out ((HE6.out.has 2 (by omega) (by omega)).below b) ((HE6.out.has 5 (by omega) (by omega)).below b) ((HE6.out.has 8 (by omega) (by omega)).below b) ((HE6.out.has 9 (by omega) (by omega)).below b) ((flFault_wf a0).1 h))
    have LOF := Lib.hid (fun (w' : World) (b : Below (w5.alloc (.cells #[.int .i64 (flFault a0).1, .int .i64 (flFault a0).2] 85)).heap.size (w5.alloc (.cells #[.int .i64 (flFault a0).1, .int .i64 (flFault a0).2] 85)) w') => listOf_any a0 _ w' (SL6.out.below b) (fun x hx => by have := HEA.out x hx; omega) (by omega))
    have SLN := Lib.hid (fun (r1 r2 : Value) (w' : World) h1 h2 => sameLines_yes (a0.map PF.line) r1 r2 w' h1 h2 (csum_small a0))
    rw [line_pm] at SLN
    generalize w5.alloc (.cells #[.int .i64 (flFault a0).1, .int .i64 (flFault a0).2] 85) = w6 at *
    generalize flFault a0 = q at *
    generalize putX a0 n1 n2 = px at *
    obtain ⟨X, p⟩ := px
    simp only [] at PU HPO p12 SX
    generalize w5.heap.size = g at *
    generalize nameB n1 = nb at *
    generalize (fgetL a0 n1).isSome = gs at *
    generalize (fgetL a0 n1).getD [] = gd at *
    have FB := Lib.hid (fun (w' : World) (b : Below w6.heap.size w6 w') => show w'.cell? ⟨g, 0, none⟩ = some (.int .i64 (q.1 : Nat)) ∧ w'.cell? ⟨g, 1, none⟩ = some (.int .i64 q.2) from by
      have h := (b.block g (lt_of_block hy)).trans hy
      constructor <;> simp [World.cell?, h])
    have DD : Hid (∀ w' : World, Below w6.heap.size w6 w' → (w'.cell? ⟨g, 0, none⟩ = some (.int .i64 (q.1 : Nat)) ∧ w'.cell? ⟨g, 1, none⟩ = some (.int .i64 q.2)) ∧ Below w6.heap.size w6 w') := fun w' b => ⟨FB.out w' b, b⟩
    have b66 := Below.refl w6.heap.size w6
    have S6 := DD.out w6 b66
    clear hy b06 b36 SO3 B3 HL HE
    go_region_held3 (fun w' => (w'.cell? ⟨g, 0, none⟩ = some (.int .i64 (q.1 : Nat)) ∧ w'.cell? ⟨g, 1, none⟩ = some (.int .i64 q.2)) ∧ Below w6.heap.size w6 w') (first | assumption | exact S6 | exact DD.out _ (by assumption) | exact DD.out _ (Below.drew b66))
      (first
      | (go_at_call 38; refine (NM.out _).mono ?_; rintro e w7 ⟨rfl, b7⟩; have bb7 := below_trans' (by first | assumption | exact Below.drew b66) b7; have SS7 := DD.out _ bb7)
      | (go_at_call 40; refine (CK.out _ ?_).mono ?_; (first | assumption | exact Below.drew b66); rintro e w8 ⟨r8, rfl, fe8, b8⟩; have bb8 := below_trans' (by first | assumption | exact Below.drew b66) b8; have SS8 := DD.out _ bb8)
      | (go_at_call 39; refine (faulted_yes E r8 q.1 q.2 _ fe8 ?_ q12).mono ?_; (exact HE6.out.below (by assumption)); rintro e w9 ⟨rfl, b9⟩; have bb9 := below_trans' (by assumption) b9; have SS9 := DD.out _ bb9))
    have c9 := bb9
    clear CK NM
    clear S6
    go_wp2_with fail
    refine (GE.out _ c9).mono ?_
    rintro e wa ⟨rfl, ba⟩
    have ca := below_trans' c9 ba
    clear c9 ba GE
    go_wp2_with fail
    refine (GO.out _ ca).mono ?_
    rintro e wb ⟨rfl, bb⟩
    have cb := below_trans' ca bb
    clear ca bb GO
    go_wp2_with fail
    refine (DRP.out _ cb).mono ?_
    rintro e wc ⟨rd, rfl, oc, bc⟩
    have cc := below_trans' cb bc
    have OC := Lib.hid (SliceIs.ownedK oc)
    clear cb bc oc DRP
    go_wp2_with fail
    refine (DRO.out _ cc).mono ?_
    rintro e wd ⟨rf, rfl, od, bd⟩
    have cd := below_trans' cc bd
    have OCd := Lib.hid (OC.out.below bd)
    have OD := Lib.hid (SliceIs.ownedK od)
    clear cc bd od DRO
    go_wp2_with fail
    refine (SD.out _ _ _ OCd.out OD.out).mono ?_
    rintro e we ⟨rfl, me, rfl⟩
    have ce := below_drewN cd me
    generalize wd.drewN me = we at *
    clear cd SD OCd OD OC
    go_wp2_with fail
    refine (PU.out _ ce).mono ?_
    rintro e wf ⟨rx, er, rfl, fe, sx, bf⟩
    have cf := below_trans' ce bf
    have SXf := Lib.hid sx
    have FEf := Lib.hid fe
    clear ce bf PU sx fe
    go_wp2_with fail
    refine (HPO.out _ cf).mono ?_
    rintro e wg ⟨ry, rfl, sy, bg⟩
    have cg := below_trans' cf bg
    have hz := heap_alloc_new wg (.cells #[.int .i64 (p.1 : Nat), .int .i64 p.2] 85)
    have ch := cg.alloc cg.size (.cells #[.int .i64 (p.1 : Nat), .int .i64 p.2] 85)
    have bgh := bg.alloc bg.size (.cells #[.int .i64 (p.1 : Nat), .int .i64 p.2] 85)
    have SXh := Lib.hid (SXf.out.below bgh)
    have SYh := Lib.hid (sy.below (below_one wg (.cells #[.int .i64 (p.1 : Nat), .int .i64 p.2] 85)))
    have FEh := Lib.hid (FEf.out.below bgh)
    clear cf bg cg sy bgh SXf FEf HPO
    go_wp2_with fail
    generalize wg.alloc (.cells #[.int .i64 (p.1 : Nat), .int .i64 p.2] 85) = wh at *
    generalize wg.heap.size = g2 at *
    refine (faulted_yes E er p.1 p.2 _ FEh.out (HE6.out.below ch) p12).mono ?_
    rintro e wi ⟨rfl, bi⟩
    have ci := below_trans' ch bi
    have SXi := Lib.hid (SXh.out.below bi)
    have SYi := Lib.hid (SYh.out.below bi)
    clear ch bi SXh SYh FEh hz
    go_wp2_with fail
    refine (SX.out _ _ _ SXi.out SYi.out).mono ?_
    rintro e wj ⟨rfl, mj, rfl⟩
    have cj := below_drewN ci mj
    generalize wi.drewN mj = wj at *
    clear ci SX SXi SYi
    by_cases hq : q.1 = 0
    · have hqI : ¬ (0 : Int) < q.1 := by omega
      have LY2 := Lib.hid (LY.out _ cj hq)
      have SFj := SF
      clear LY LN hq
      go_wp2_with fail
      refine LY2.out.mono ?_
      rintro e wk ⟨rl, rfl, ok, bk⟩
      have ck := below_trans' cj bk
      have RLk := Lib.hid (SliceIs.ownedK ok)
      obtain ⟨c0', c1'⟩ := FB.out wk ck
      clear cj bk ok LY2
      go_wp2_with fail
      refine (LOF.out _ ck).mono ?_
      rintro e wl ⟨rm, rfl, ol, bl⟩
      have cl := below_trans' ck bl
      have RLl := Lib.hid (RLk.out.below bl)
      have RMl := Lib.hid (SliceIs.ownedK ol)
      clear ck bl ol RLk LOF c0' c1'
      go_wp2_with fail
      refine (SLN.out _ _ _ RLl.out RMl.out).mono ?_
      rintro e wm ⟨rfl, mm, rfl⟩
      have cm := below_drewN cl mm
      generalize wl.drewN mm = wm at *
      clear cl RLl RMl SLN
      go_wp2_with fail
      refine (SF.out _ cm).mono ?_
      rintro e wn ⟨rfl, mn, rfl⟩
      have cn := below_drewN cm mn
      go_wp2_with fail
      go_ret
      exact ⟨rfl, below_trans' B06.out cn⟩
    · have hqI : (0 : Int) < q.1 := by omega
      have LN2 := Lib.hid (LN.out _ cj hq)
      clear LY LN hq
      go_wp2_with fail
      refine LN2.out.mono ?_
      rintro e wk ⟨el, rfl, fl, bk⟩
      have ck := below_trans' cj bk
      have FLk := Lib.hid fl
      obtain ⟨c0', c1'⟩ := FB.out wk ck
      clear cj bk fl LN2
      go_wp2_with fail
      refine (faulted_yes E el q.1 q.2 _ FLk.out (HE6.out.below ck) q12).mono ?_
      rintro e wl ⟨rfl, bl⟩
      have cl := below_trans' ck bl
      go_wp2_with fail
      go_ret
      exact ⟨rfl, below_trans' B06.out cl⟩
end Go.Proofs.YtapdfgnfblkncaaDoor
