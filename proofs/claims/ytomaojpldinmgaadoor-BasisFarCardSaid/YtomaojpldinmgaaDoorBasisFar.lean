/- BasisFar: of a file's own marks the last one holds; a file that is alike up to there is right as far; a mark is read as it was written. -/
import Derived.Test.YtomaojpldinmgaaDoorMarked
import Derived.Test.YtomaojpldinmgaaDoorLaid
import Derived.Outline
namespace Go.Proofs.YtomaojpldinmgaaDoor
open Go.RowKit
set_option linter.unusedVariables false

theorem mk_eq (s s' : ByteArray) (n n' : Int) (c c' : Nat) (w : World) : (Op.equalIn 10000 56 (.agg #[.string s, .int .i64 n, .int .u32 c]) (.agg #[.string s', .int .i64 n', .int .u32 c'])).run Tryd.prog w =
    if s.toList = s'.toList ∧ n = n' ∧ c = c' then .ok true w else .ok false w := by
  have u3 := Tryd.underlying3
  have u5 := Tryd.underlying54
  have u9 := Tryd.underlying9
  have hS : Tryd.prog.underlying 56 = some (.struct (Tryd.prog.fieldsOf 56)) := by kernel_rfl
  rw [show (10000 : Nat) = 9999 + 1 from rfl, run_equalIn_agg w 9999 56 _ _ hS (by kernel_rfl)]
  simp only [Program.fieldsOf, Tryd.underlying56]
  go_simp
  have hk : ((c : Int) = (c' : Int)) ↔ c = c' := by omega
  simp only [hk]
  by_cases h1 : s.toList = s'.toList <;> by_cases h2 : n = n' <;> by_cases h3 : c = c' <;> simp [h1, h2, h3]
theorem mk_not (s : ByteArray) (n : Int) (c : Nat) (w : World) : (binOp .neq 56 (.agg #[.string s, .int .i64 n, .int .u32 c]) (.agg #[.string s, .int .i64 n, .int .u32 c])).run Tryd.prog w = .ok (.bool false) w := by
  have h : (Op.equalIn 10000 56 (.agg #[.string s, .int .i64 n, .int .u32 c]) (.agg #[.string s, .int .i64 n, .int .u32 c])).run Tryd.prog w = .ok true w := by rw [mk_eq, if_pos ⟨rfl, rfl, rfl⟩]
  go_simp
theorem tmod_nat (a b : Nat) : ((a : Nat) : Int).tmod (b : Int) = ((a % b : Nat) : Int) := rfl
theorem mksL_each {name data : List UInt8} {step k : Nat} (i : Nat) (h : i < (mksL name data step k).length) : (mksL name data step k)[i]'h = ⟨name, ((step * (i + 1) : Nat) : Int), csum (data.take (step * (i + 1)))⟩ := by
  have := mksL_get name data step k i (by rw [mksL_len] at h; exact h)
  rw [List.getElem?_eq_getElem h] at this
  exact Option.some.inj this
theorem mk_fine {n : List UInt8} {P S : Nat} (h : nameB n = true) (hP : P ≤ 4000) (hS : S < 4294967296) : mkC ⟨n, (P : Int), S⟩ = 0 ∧ mkX ⟨n, (P : Int), S⟩ = mkT ⟨n, (P : Int), S⟩ ∧ rdM (mkT ⟨n, (P : Int), S⟩) = (⟨n, (P : Int), S⟩, 0) ∧ (mkT ⟨n, (P : Int), S⟩).length ≤ n.length + 40 := by
  have hC : mkC ⟨n, (P : Int), S⟩ = 0 := by unfold mkC; rw [if_neg (by simp [h]), if_neg (by simp only; omega)]
  refine ⟨hC, by unfold mkX; rw [if_pos hC], mk_back _ hC hS, ?_⟩
  have h1 := dec_len_le (n := P) (k := 18) (by omega)
  have h2 := dec_len_le (n := S) (k := 18) (by omega)
  unfold mkT
  simp only [List.length_append, List.length_cons, Int.toNat_natCast]
  omega
def step_in (st len i : Nat) : Prop := 1 ≤ st * (i + 1) ∧ st * (i + 1) ≤ len
theorem step_in_of {st len i : Nat} (h1 : 1 ≤ st) (h : i < len / st) : step_in st len i := by
  have h2 : st * (i + 1) ≤ st * (len / st) := Nat.mul_le_mul_left _ h
  have h3 := Nat.mul_div_le len st
  have h4 : 0 < st * (i + 1) := Nat.mul_pos h1 (by omega)
  exact ⟨by omega, by omega⟩
attribute [local irreducible] mkX mkC mkT rdM farL mksL msC nameB
set_option maxRecDepth 100000 in
set_option maxHeartbeats 25600000 in
theorem basisFar_walk (E : Nat → Addr) (a0 : ByteArray) (a1 : ByteArray) (a2 : ByteArray) (a3 : Int) (a4 : Int) (w : World) (h0 : a0.size ≤ maxLen) (h1 : a1.size ≤ maxLen) (h2 : a2.size ≤ maxLen) (hz3 : (Lit.int .i64 a3).wf = true) (hz4 : (Lit.int .i64 a4).wf = true) (hT : TabW w) (hM : MaxW w) (hH : ∀ c ∈ [1, 2, 5, 14, 13], Has E w c ∧ Sent w (E c)) (_ : ∀ c ∈ [1, 2, 5, 14, 13], ∀ c' ∈ [1, 2, 5, 14, 13], c ≠ c' → E c ≠ E c') :
    Calls Tryd.prog 4 #[.string a0, .string a1, .string a2, .int .i64 a3, .int .i64 a4] w fun e w' => e = .returned (.bool true) ∧ Below w.heap.size w w' := by
  have hLW : LibW E w := ⟨hT, hM, (hH 13 (by simp)).1, (hH 14 (by simp)).1⟩
  have HLW := Lib.hid hLW
  have H1 := Lib.hid (hH 1 (by simp)).1
  have H2 := Lib.hid (hH 2 (by simp)).1
  have H5 := Lib.hid (hH 5 (by simp)).1
  have MK := Lib.hid (marked_ok E w hLW H2.out H5.out)
  obtain ⟨n, rfl⟩ : ∃ b, a0 = bs b := ⟨a0.data.toList, (bs_of a0).symm⟩
  obtain ⟨d, rfl⟩ : ∃ b, a1 = bs b := ⟨a1.data.toList, (bs_of a1).symm⟩
  obtain ⟨o, rfl⟩ : ∃ b, a2 = bs b := ⟨a2.data.toList, (bs_of a2).symm⟩
  rw [bs_size] at h0 h1 h2
  unfold maxLen at h0 h1 h2
  have hnz : (bs n).size = n.length := bs_size n
  have hdz : (bs d).size = d.length := bs_size d
  have hoz : (bs o).size = o.length := bs_size o
  clear hT hM hH hLW hz3 hz4
  have stop : ∀ (hq : ¬ (d.length ≤ 300 ∧ o.length ≤ 300 ∧ n.length ≤ 30 ∧ 0 ≤ a4 ∧ a4 ≤ d.length)), Calls Tryd.prog 4 #[.string (bs n), .string (bs d), .string (bs o), .int .i64 a3, .int .i64 a4] w fun e w' => e = .returned (.bool true) ∧ Below w.heap.size w w' := by
    intro hq
    have hor : (300 : Int) < d.length ∨ ¬ (300 : Int) < d.length ∧ ((300 : Int) < o.length ∨ ¬ (300 : Int) < o.length ∧ ((30 : Int) < n.length ∨ ¬ (30 : Int) < n.length ∧ (a4 < 0 ∨ ¬ a4 < 0 ∧ (d.length : Int) < a4))) := by omega
    clear hq
    rcases hor with k1 | ⟨k1, k2 | ⟨k2, k3 | ⟨k3, k4 | ⟨k4, k5⟩⟩⟩⟩
    all_goals
      go_enter Tryd.func4, Tryd.ntmps4
      go_wp2_with fail
      refine MK.out.mono ?_
      rintro e w1 ⟨rfl, b1⟩
      go_wp2_with fail
      go_ret
      exact ⟨rfl, b1⟩
  by_cases hq : d.length ≤ 300 ∧ o.length ≤ 300 ∧ n.length ≤ 30 ∧ 0 ≤ a4 ∧ a4 ≤ d.length
  · clear stop
    obtain ⟨q1, q2, q3, q4, q5⟩ := hq
    have k1 : ¬ (300 : Int) < d.length := by omega
    have k2 : ¬ (300 : Int) < o.length := by omega
    have k3 : ¬ (30 : Int) < n.length := by omega
    have k4 : ¬ a4 < 0 := by omega
    have k5 : ¬ (d.length : Int) < a4 := by omega
    by_cases hmc : msC n d a3 = 0
    · have hnm : nameB n = true ∧ 1 ≤ a3 ∧ a3 ≤ 4000 := by
        by_cases hn : nameB n = true
        · by_cases hb : 4000 < d.length ∨ a3 < 1 ∨ 4000 < a3
          · rw [msC_bound hn hb] at hmc; cases hmc
          · exact ⟨hn, by omega, by omega⟩
        · rw [msC_name (by simpa using hn)] at hmc; cases hmc
      obtain ⟨hnm, s1, s2⟩ := hnm
      obtain ⟨st, rfl⟩ := Int.eq_ofNat_of_zero_le (show 0 ≤ a3 by omega)
      obtain ⟨ct, rfl⟩ := Int.eq_ofNat_of_zero_le q4
      have hs1 : 1 ≤ st := by omega
      have hs2 : st ≤ 4000 := by omega
      have hct : ct ≤ d.length := by omega
      have HNM := Lib.hid hnm
      have KK : Hid (1 ≤ st ∧ st ≤ 4000 ∧ ct ≤ d.length) := ⟨hs1, hs2, hct⟩
      have MS := Lib.hid (fun w' => bmarks_yes n d st w' hnm (by omega) (by omega) hs1 hs2)
      have FO := Lib.hid (fun (v : Value) (w' : World) (h : SliceIs w' v 3 (mkcells (mksL n d st (d.length / st)))) => bfar_any (mksL n d st (d.length / st)) v n d w' h (by omega))
      rw [far_own n d st hs1] at FO
      have hne : n ≠ n ++ [120] := fun e => by have := congrArg List.length e; simp at this
      have FX := Lib.hid (fun (v : Value) (w' : World) (h : SliceIs w' v 3 (mkcells (mksL n d st (d.length / st)))) => bfar_any (mksL n d st (d.length / st)) v (n ++ [120]) d w' h (by omega))
      rw [far_other hne] at FX
      have FN := Lib.hid (fun (w' : World) => bfar_any [] (.slice none 0 0) n d w' (.inl ⟨rfl, rfl⟩) (by omega))
      rw [far_nil] at FN
      have FM := Lib.hid (fun (v : Value) (w' : World) (h : SliceIs w' v 3 (mkcells (mksL n d st (d.length / st)))) => bfar_any (mksL n d st (d.length / st)) v n (d.take ct ++ o) w' h (by simp; omega))
      have hmix := far_mixed n d o st ct hs1 hct
      generalize hFM : farL n (d.take ct ++ o) (mksL n d st (d.length / st)) = fm at *
      have hm1 : ((d.length : Nat) : Int).tmod (st : Int) = ((d.length % st : Nat) : Int) := tmod_nat _ _
      have hm2 : ((ct : Nat) : Int).tmod (st : Int) = ((ct % st : Nat) : Int) := tmod_nat _ _
      have hl1 : d.length % st ≤ d.length := Nat.mod_le _ _
      have hl2 : ct % st ≤ ct := Nat.mod_le _ _
      have hlast : (d.length : Int) - ((d.length % st : Nat) : Int) = ((d.length - d.length % st : Nat) : Int) := by omega
      have hmix2 : ¬ fm < (ct : Int) - ((ct % st : Nat) : Int) := by omega
      have hce : ((ct % st : Nat) : Int) = (ct : Int) % (st : Int) := Int.natCast_emod ct st
      rw [hce] at hmix2 hm2
      have hcl : 0 ≤ (ct : Int) % (st : Int) ∧ (ct : Int) % (st : Int) ≤ ct := by rw [← hce]; omega
      obtain ⟨hcl1, hcl2⟩ := hcl
      have hwA : IntKind.i64.wrap ((ct : Int) % (st : Int)) = (ct : Int) % (st : Int) := IntWalk.i64_in _ (by omega)
      have hwB : IntKind.i64.wrap ((ct : Int) - (ct : Int) % (st : Int)) = (ct : Int) - (ct : Int) % (st : Int) := IntWalk.i64_in _ (by omega)
      clear hce
      have LEN := mksL_len n d st (d.length / st)
      have EACH := Lib.hid (fun i h => mksL_each (name := n) (data := d) (step := st) (k := d.length / st) i h)
      have HD300 : Hid (d.length ≤ 300 ∧ n.length ≤ 30) := ⟨q1, q3⟩
      have DIV : Hid (∀ i, i < d.length / st → step_in st d.length i) := Lib.hid fun i hi => step_in_of hs1 hi
      generalize hL : mksL n d st (d.length / st) = L at *
      rw [← LEN] at MS DIV
      have hLl : L.length ≤ 300 := by
        have : d.length / st ≤ d.length := Nat.div_le_self _ _
        omega
      have HLL := Lib.hid hLl
      have EXm : (bs d).extract 0 ct = bs (d.take ct) := by rw [bs_take, bs_list]
      have CAT : bs (d.take ct) ++ bs o = bs (d.take ct ++ o) := eq_bs (by simp)
      have CATx : bs n ++ ⟨#[120]⟩ = bs (n ++ [120]) := eq_bs (by simp)
      have y1 : (0 : Int) ≤ (ct : Int) := by omega
      have y2 : (ct : Int) ≤ d.length := by omega
      have y3 : (ct : Int).toNat = ct := by omega
      have g1 : ¬ 9223372036854775807 < n.length + 1 := by omega
      have g2 : ¬ 9223372036854775807 < ct + o.length := by omega
      clear hmc hnm hne hmix hL hFM LEN
      go_enter Tryd.func4, Tryd.ntmps4
      go_wp2_with fail
      refine MK.out.mono ?_
      rintro e w1 ⟨rfl, b1⟩
      have B1 := Lib.hid b1
      clear b1 MK
      go_wp2_with fail
      refine (MS.out _).mono ?_
      rintro e w2 ⟨r, rfl, o2, b2⟩
      obtain ⟨ra, rc, rfl⟩ := owns_slice' o2
      have B2 := Lib.hid (below_trans' B1.out b2)
      have SK := Lib.hid (fun (w' : World) (b : Below w2.heap.size w2 w') => (SliceIs.ownedK o2).below b)
      clear o2 b2 MS
      go_wp2_with fail
      refine (FO.out _ _ (SK.out _ (Below.refl _ _))).mono ?_
      rintro e w3 ⟨rfl, b3⟩
      have B3 := Lib.hid b3
      clear b3 FO
      go_wp2_with fail
      refine (FX.out _ _ (SK.out _ B3.out)).mono ?_
      rintro e w4 ⟨rfl, b4⟩
      have B4 := Lib.hid (below_trans' B3.out b4)
      clear b4 FX B3
      go_wp2_with fail
      refine (FN.out _).mono ?_
      rintro e w5 ⟨rfl, b5⟩
      have B5 := Lib.hid (below_trans' B4.out b5)
      clear b5 FN B4
      go_wp2_with fail
      go_region_with ((go_at_call 22; refine (FM.out _ _ (SK.out _ (by first | exact B5.out | exact Below.drew B5.out))).mono ?_; rintro e w6 ⟨rfl, b6⟩))
      all_goals
        have B6 := Lib.hid (below_trans' (by first | exact B5.out | exact Below.drew B5.out) b6)
        clear b6 FM CAT CATx EXm
        go_wp2_with fail
        go_loopw [16, 17, 18, 19] (fun i _ _ _ wr => ∃ k : Nat, i = .int .i64 k ∧ k ≤ L.length ∧ Below w2.heap.size w2 wr) (fun i _ _ _ _ => L.length - (intOf i).toNat)
        case atStart => exact ⟨0, rfl, by omega, by first | exact B6.out | exact Below.drew B6.out⟩
        case round =>
          obtain ⟨k, rfl, hk, bk⟩ := hrel
          have BK := Lib.hid bk
          have BT := Lib.hid (fun (w' : World) (b : Below wr.heap.size wr w') => below_trans' B2.out (below_trans' BK.out b))
          have SR := Lib.hid (fun (w' : World) (b : Below wr.heap.size wr w') => SK.out _ (below_trans' BK.out b))
          clear bk B5 B6
          by_cases hlt : k < L.length
          · have hltI : (k : Int) < L.length := by omega
            have XE := EACH.out k hlt
            obtain ⟨p1, p2⟩ := DIV.out k hlt
            have CL := Lib.hid (fun (w' : World) (b : Below wr.heap.size wr w') => show ∃ ad : Addr, ra = some ad ∧ w'.cell? (ad.add (k * 3)) = some (.string (bs L[k].n)) ∧ w'.cell? ⟨(ad.add (k * 3)).block, (ad.add (k * 3)).off + (0 + 1), none⟩ = some (.int .i64 L[k].N) ∧ w'.cell? ⟨(ad.add (k * 3)).block, (ad.add (k * 3)).off + (1 + 1), none⟩ = some (.int .u32 L[k].S) from by
              obtain ⟨_, _, _, e1, _, _, _, gk⟩ := (SR.out _ b).get
              cases e1
              obtain ⟨g2, g3, g4⟩ := mkcells_get L k hlt
              obtain ⟨ad, e2, d0⟩ := gk _ _ g2
              obtain ⟨_, e3, d1⟩ := gk _ _ g3
              obtain ⟨_, e4, d2⟩ := gk _ _ g4
              rw [e2] at e3 e4
              cases e3
              cases e4
              exact ⟨ad, e2, d0, cell_at d1, cell_at d2⟩)
            rw [XE] at CL
            simp only at CL
            generalize hP : st * (k + 1) = P at *
            obtain ⟨m1, m2, m3, m4⟩ := mk_fine (P := P) (S := csum (d.take P)) HNM.out (by have := HD300.out; omega) (csum_lt _)
            have TX := Lib.hid (fun (w' : World) (b : Below w.heap.size w w') => btext_any E ⟨n, (P : Int), csum (d.take P)⟩ w' (HLW.out.below b) (by have := HD300.out; simp only; omega) (by have := csum_lt (d.take P); simp only; omega) (H5.out.below b) (H2.out.below b))
            rw [m1, m2, ev_zero] at TX
            have RX := Lib.hid (fun (w' : World) (b : Below w.heap.size w w') => bread_any E (mkT ⟨n, (P : Int), csum (d.take P)⟩) w' (HLW.out.below b) (by have := HD300.out; omega) (H1.out.below b) (H2.out.below b) (H5.out.below b))
            rw [m3, ev_zero] at RX
            simp only [PMk.val] at RX
            have SX := Lib.hid (fun (w' : World) => sum_any (bs (d.take P)) w' (by have := HD300.out; rw [bs_size, List.length_take]; omega))
            rw [bs_list] at SX
            have EXP : (bs d).extract 0 P = bs (d.take P) := by rw [bs_take, bs_list]
            have NQ := mk_not (bs n) (P : Int) (csum (d.take P))
            have KK2 := Lib.hid (show k + 1 ≤ L.length from hlt)
            have x1 : (0 : Int) ≤ k := by omega
            have x2 : (k : Int).toNat = k := by omega
            have z1 : (0 : Int) ≤ (P : Int) := by omega
            have z2 : (P : Int) ≤ d.length := by omega
            have z3 : (P : Int).toNat = P := by omega
            clear XE m1 m2 m3 m4 hP p1 p2
            generalize mkT ⟨n, (P : Int), csum (d.take P)⟩ = tx at *
            generalize csum (d.take P) = cs at *
            obtain ⟨ad, hra, c0, c1, c2⟩ := CL.out wr (Below.refl _ _)
            subst hra
            have CL2 : Hid (∀ w' : World, Below wr.heap.size wr w' → w'.cell? (ad.add (k * 3)) = some (.string (bs n)) ∧ w'.cell? ⟨(ad.add (k * 3)).block, (ad.add (k * 3)).off + (0 + 1), none⟩ = some (.int .i64 P) ∧ w'.cell? ⟨(ad.add (k * 3)).block, (ad.add (k * 3)).off + (1 + 1), none⟩ = some (.int .u32 cs)) := Lib.hid fun w' b => by
              obtain ⟨ad2, e, q0, q1, q2⟩ := CL.out w' b
              cases e
              exact ⟨q0, q1, q2⟩
            clear CL
            go_wp2_with fail
            refine (TX.out _ (BT.out _ (Below.refl _ _))).mono ?_
            rintro e w7 ⟨rfl, b7⟩
            have B7 := Lib.hid b7
            clear b7 TX c0 c1 c2
            go_wp2_with fail
            refine (RX.out _ (BT.out _ B7.out)).mono ?_
            rintro e w8 ⟨rfl, b8⟩
            have B8 := Lib.hid (below_trans' B7.out b8)
            have hn8 := heap_alloc_new w8 (.cells #[.string (bs n), .int .i64 P, .int .u32 cs] 56)
            have B9 := Lib.hid (below_trans' B8.out (wb_alloc w8 (.cells #[.string (bs n), .int .i64 P, .int .u32 cs] 56)))
            obtain ⟨c0, c1, c2⟩ := CL2.out _ B9.out
            obtain ⟨r0, r1, r2⟩ := mk_cs hn8
            clear b8 RX B7 hn8
            go_wp2_with fail
            have B10 := Lib.hid (below_trans' BK.out B9.out)
            have hqs : ((cs : Int) != cs) = false := by simp
            have SXD := Lib.hid (fun nn => SX.out ((w8.alloc (.cells #[.string (bs n), .int .i64 P, .int .u32 cs] 56)).drewN nn))
            clear CL2 SR B8 B9
            generalize w8.alloc (.cells #[.string (bs n), .int .i64 P, .int .u32 cs] 56) = w9 at *
            go_quiet ((go_at_call 25; first | exact Calls.quiet_of_same (SX.out _) | exact quiet_left (SX.out _) | exact quiet_add_left (SX.out _)))
            go_wp2_with fail
            go_roundw
            case rel => exact ⟨k + 1, by go_num, KK2.out, below_drewN B10.out _⟩
            case measure => simp [intOf]; omega
          · have hltI : ¬ (k : Int) < L.length := by omega
            go_wp2_with fail
            go_ret
            exact ⟨rfl, BT.out _ (Below.refl _ _)⟩
    · have hst : ¬ msC n d a3 = 0 := hmc
      have MS := Lib.hid (fun (w' : World) (b : Below w.heap.size w w') => bmarks_no E n d a3 w' (by omega) (H2.out.below b) (H5.out.below b) hst)
      rw [ev_pos E hst] at MS
      clear hmc hst
      go_enter Tryd.func4, Tryd.ntmps4
      go_wp2_with fail
      refine MK.out.mono ?_
      rintro e w1 ⟨rfl, b1⟩
      have MS1 := Lib.hid (MS.out _ b1)
      have B1 := Lib.hid b1
      clear b1 MK MS
      go_wp2_with fail
      refine MS1.out.mono ?_
      rintro e w2 ⟨rfl, b2⟩
      have B2 := Lib.hid (below_trans' B1.out b2)
      clear b2 MS1
      go_wp2_with fail
      go_ret
      exact ⟨rfl, B2.out⟩
  · exact stop hq
end Go.Proofs.YtomaojpldinmgaaDoor
