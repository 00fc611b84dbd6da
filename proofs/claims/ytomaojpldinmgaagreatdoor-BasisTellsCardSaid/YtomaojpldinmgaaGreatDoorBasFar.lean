/- Contracts of basis.Far, Marks. -/
import Derived.Test.YtomaojpldinmgaaGreatDoorBasRead
import Derived.Test.YtomaojpldinmgaaGreatDoorAids
namespace Go.Proofs.YtomaojpldinmgaaGreatDoor
open Go.RowKit
set_option linter.unusedVariables false

def farS (name data : List UInt8) (m : PMk) (far : Int) : Int := if m.n = name ∧ far < m.N ∧ m.N ≤ data.length ∧ csum (data.take m.N.toNat) = m.S then m.N else far
theorem farF_step {name data : List UInt8} {l : List PMk} {k : Nat} {far : Int} (h : k < l.length) : farF name data (l.drop k) far = farF name data (l.drop (k + 1)) (farS name data l[k] far) := by
  rw [List.drop_eq_getElem_cons h]; rfl
theorem farF_end {name data : List UInt8} {l : List PMk} {k : Nat} {far : Int} (h : l.length ≤ k) : farF name data (l.drop k) far = far := by rw [List.drop_of_length_le h]; rfl
theorem farS_yes {name data : List UInt8} {m : PMk} {far : Int} (h : m.n = name ∧ far < m.N ∧ m.N ≤ data.length ∧ csum (data.take m.N.toNat) = m.S) : farS name data m far = m.N := by unfold farS; rw [if_pos h]
theorem farS_no {name data : List UInt8} {m : PMk} {far : Int} (h : ¬ (m.n = name ∧ far < m.N ∧ m.N ≤ data.length ∧ csum (data.take m.N.toNat) = m.S)) : farS name data m far = far := by unfold farS; rw [if_neg h]
theorem bs_tlM (l : List UInt8) : (bs l).toList = l := by rw [ByteArray.toList_eq, bs_list]
attribute [local irreducible] farF farS
set_option maxRecDepth 100000 in
set_option maxHeartbeats 6400000 in
theorem bfar_any (l : List PMk) (v : Value) (name data : List UInt8) (w : World) (hl : SliceIs w v 3 (mkcells l)) (hd : data.length ≤ 100000) :
    Calls Tryz.prog 18 #[v, .string (bs name), .string (bs data)] w fun e w' => e = .returned (.int .i64 (farL name data l)) ∧ Below w.heap.size w w' := by
  obtain ⟨s, m, c, rfl, hn, h1, h2, hg⟩ := hl.get
  rw [mkcells_len] at hn
  obtain rfl : m = l.length := by omega
  unfold maxLen at h2
  have HSL := Lib.hid hl
  have HS : Hid (farL name data l = farF name data (l.drop 0) 0) := Lib.hid rfl
  have hdz : (bs data).size = data.length := bs_size data
  have SM := Lib.hid (fun (N : Nat) w' => sum_any (bs (data.take N)) w' (by rw [bs_size, List.length_take]; omega))
  simp only [bs_list] at SM
  generalize farL name data l = r at *
  clear hl hg
  go_enter Tryz.func18, Tryz.ntmps18
  go_wp2_with fail
  go_loopw [7, 9, 12] (fun f _ i wr => ∃ (k : Nat) (far : Int), i = .int .i64 k ∧ f = .int .i64 far ∧ k ≤ l.length ∧ 0 ≤ far ∧ far ≤ data.length ∧ r = farF name data (l.drop k) far ∧ Below w.heap.size w wr) (fun _ _ i _ => l.length - (intOf i).toNat)
  case atStart => exact ⟨0, 0, rfl, rfl, by omega, by omega, by omega, HS.out, Below.refl _ _⟩
  case round =>
    obtain ⟨k, far, rfl, rfl, hk, hf0, hf1, hr, bel⟩ := hrel
    have HR := Lib.hid hr
    clear hr
    by_cases hlt : k < l.length
    · have hltI : (k : Int) < l.length := by omega
      obtain ⟨s0', n0', c0', e1, _, _, _, g1⟩ := (HSL.out.below bel).get
      cases e1
      obtain ⟨g2, g3, g4⟩ := mkcells_get l k hlt
      obtain ⟨ad, rfl, d0⟩ := g1 _ _ g2
      obtain ⟨a', e', d1⟩ := g1 _ _ g3
      cases e'
      obtain ⟨a', e', d2⟩ := g1 _ _ g4
      cases e'
      clear g1 g2 g3 g4
      have ST := Lib.hid (HR.out.trans (farF_step hlt))
      have KK := Lib.hid (show k + 1 ≤ l.length by omega)
      have x1 : (0 : Int) ≤ k := by omega
      have x2 : (k : Int).toNat = k := by omega
      generalize l[k] = x at d0 d1 d2 ST
      have d1 := cell_at d1
      have d2 := cell_at d2
      have BA := Lib.hid (bel.alloc bel.size (.cells #[.string (bs x.n), .int .i64 x.N, .int .u32 x.S] 30))
      obtain ⟨xn, xN, xS⟩ := x
      simp only at d0 d1 d2 BA
      by_cases hx : xn = name
      · have hb : ((bs xn).toList == (bs name).toList) = true := by rw [bs_tlM, bs_tlM]; simpa using hx
        have hq : Op.bytesLess (bs xn).toList (bs name).toList = Op.bytesLess (bs xn).toList (bs name).toList := rfl
        by_cases h3 : far < xN
        · have h3d : decide (far < xN) = true := by simpa using h3
          by_cases h4 : xN ≤ data.length
          · have h4d : decide (xN ≤ (data.length : Int)) = true := by simpa using h4
            obtain ⟨N, rfl⟩ := Int.eq_ofNat_of_zero_le (show 0 ≤ xN by omega)
            have hN : N ≤ data.length := by omega
            have EX : (bs data).extract 0 N = bs (data.take N) := by rw [bs_take, bs_list]
            have y1 : (0 : Int) ≤ (N : Int) := by omega
            have y2 : (N : Int).toNat = N := by omega
            have SMN := Lib.hid (fun w' => SM.out N w')
            by_cases h5 : csum (data.take N) = xS
            · have h5b : ((csum (data.take N) : Int) == xS) = true := by rw [beq_iff_eq]; omega
              have ST2 := Lib.hid (ST.out.trans (by rw [farS_yes ⟨hx, h3, h4, by simpa using h5⟩]))
              generalize csum (data.take N) = cs at *
              clear hx hq
              go_wp2_with fail
              go_quiet ((go_at_call 59; first | exact Calls.quiet_of_same (SMN.out _) | exact quiet_left (SMN.out _) | exact quiet_add_left (SMN.out _)))
              go_wp2_with fail
              go_roundw
              case rel => exact ⟨k + 1, N, by go_num, rfl, KK.out, by omega, by omega, ST2.out, below_drewN BA.out _⟩
              case measure => simp [intOf]; omega
            · have h5b : ((csum (data.take N) : Int) == xS) = false := by rw [beq_eq_false_iff_ne]; omega
              have ST2 := Lib.hid (ST.out.trans (by rw [farS_no (fun h => h5 (by simpa using h.2.2.2))]))
              generalize csum (data.take N) = cs at *
              clear hx hq
              go_wp2_with fail
              go_quiet ((go_at_call 59; first | exact Calls.quiet_of_same (SMN.out _) | exact quiet_left (SMN.out _) | exact quiet_add_left (SMN.out _)))
              go_wp2_with fail
              go_roundw
              case rel => exact ⟨k + 1, far, by go_num, rfl, KK.out, hf0, hf1, ST2.out, below_drewN BA.out _⟩
              case measure => simp [intOf]; omega
          · have h4d : decide (xN ≤ (data.length : Int)) = false := by simpa using h4
            have ST2 := Lib.hid (ST.out.trans (by rw [farS_no (fun h => h4 h.2.2.1)]))
            clear hx hq
            go_wp2_with fail
            go_quiet (fail)
            go_wp2_with fail
            go_roundw
            case rel => exact ⟨k + 1, far, by go_num, rfl, KK.out, hf0, hf1, ST2.out, below_drewN BA.out _⟩
            case measure => simp [intOf]; omega
        · have h3d : decide (far < xN) = false := by simpa using h3
          have ST2 := Lib.hid (ST.out.trans (by rw [farS_no (fun h => h3 h.2.1)]))
          clear hx hq
          go_wp2_with fail
          go_quiet (fail)
          go_wp2_with fail
          go_roundw
          case rel => exact ⟨k + 1, far, by go_num, rfl, KK.out, hf0, hf1, ST2.out, below_drewN BA.out _⟩
          case measure => simp [intOf]; omega
      · have hb : ((bs xn).toList == (bs name).toList) = false := by rw [bs_tlM, bs_tlM]; simpa using hx
        have ST2 := Lib.hid (ST.out.trans (by rw [farS_no (fun h => hx h.1)]))
        clear hx
        go_wp2_with fail
        go_quiet (fail)
        go_wp2_with fail
        go_roundw
        case rel => exact ⟨k + 1, far, by go_num, rfl, KK.out, hf0, hf1, ST2.out, below_drewN BA.out _⟩
        case measure => simp [intOf]; omega
    · have hltI : ¬ (k : Int) < l.length := by omega
      have Y := Lib.hid (HR.out.trans (farF_end (by omega : l.length ≤ k)))
      go_wp2_with fail
      go_ret
      exact ⟨by rw [Y.out]; rfl, bel⟩
/-- what Marks answers -/
def msC (name data : List UInt8) (step : Int) : Nat := if nameB name = false then 5 else if 4000 < data.length ∨ step < 1 ∨ 4000 < step then 2 else 0
theorem msC_name {name data : List UInt8} {step : Int} (h : nameB name = false) : msC name data step = 5 := by unfold msC; rw [if_pos h]
theorem msC_bound {name data : List UInt8} {step : Int} (h : nameB name = true) (h2 : 4000 < data.length ∨ step < 1 ∨ 4000 < step) : msC name data step = 2 := by unfold msC; rw [if_neg (by simp [h]), if_pos h2]
theorem msC_ok {name data : List UInt8} {step : Int} (h : nameB name = true) (h2 : ¬ (4000 < data.length ∨ step < 1 ∨ 4000 < step)) : msC name data step = 0 := by unfold msC; rw [if_neg (by simp [h]), if_neg h2]
theorem infoMk : (Tryz.prog.info? 30).map (fun i => (i.zero, i.size, i.bytes)) = some (some (.agg #[.string ⟨#[]⟩, .int .i64 0, .int .u32 0]), 3, 32) := by kernel_rfl
theorem three_newsM {w : World} {b : Nat} {u0 u1 u2 : Value} {t : TypeId} (h : w.heap[b]? = some (.cells #[u0, u1, u2] t (0, 0))) : ∀ j u', [u0, u1, u2][j]? = some u' → w.cell? ((⟨b, 0, none⟩ : Addr).add j) = some u' := by
  intro j u' hj
  match j, hj with
  | 0, hj => simp at hj; subst hj; simp [World.cell?, h, Addr.add]
  | 1, hj => simp at hj; subst hj; simp [World.cell?, h, Addr.add]
  | 2, hj => simp at hj; subst hj; simp [World.cell?, h, Addr.add]
theorem marks_more (data : List UInt8) (step k : Nat) (h : step * (k + 1) ≤ data.length) : cmore (csum (data.take (step * k))) ((data.drop (step * k)).take step) = csum (data.take (step * (k + 1))) := by
  have e : data.take (step * (k + 1)) = data.take (step * k) ++ (data.drop (step * k)).take step := by
    rw [Nat.mul_add, Nat.mul_one, List.take_add]
  rw [e]
  unfold csum
  rw [cmore_append]
theorem owns_slice' {w : World} {base : Nat} {e : TypeId} {size : Nat} {v : Value} {n : Nat} {xs : List Value} (h : w.ownsRow base e size v n xs) : ∃ a c, v = .slice a n c := owns_sl h
attribute [local irreducible] msC mksL nameB
set_option maxRecDepth 100000 in
set_option maxHeartbeats 6400000 in
theorem bmarks_no (E : Nat → Addr) (name data : List UInt8) (step : Int) (w : World) (hn : name.length ≤ 1000000000) (h2 : Has E w 2) (h5 : Has E w 5) (hc : msC name data step ≠ 0) :
    Calls Tryz.prog 15 #[.string (bs name), .string (bs data), .int .i64 step] w fun e w' => e = .returned (.tuple #[.slice none 0 0, ev E (msC name data step)]) ∧ Below w.heap.size w w' := by
  have NM := Lib.hid (fun w' => flname_any name w' (by unfold maxLen; omega))
  have E2 := Lib.hid (fun (w' : World) (b : Below w.heap.size w w') => show w'.cell? ⟨1, 0, none⟩ = some (errv (E 2)) from h2.below b)
  have E5 := Lib.hid (fun (w' : World) (b : Below w.heap.size w w') => show w'.cell? ⟨0, 0, none⟩ = some (errv (E 5)) from h5.below b)
  have hdz : (bs data).size = data.length := bs_size data
  clear h2 h5
  by_cases hnm : nameB name = true
  · rw [hnm] at NM
    have hb : 4000 < data.length ∨ step < 1 ∨ 4000 < step := by
      by_cases h : 4000 < data.length ∨ step < 1 ∨ 4000 < step
      · exact h
      · exact absurd (msC_ok hnm h) hc
    rw [msC_bound hnm hb, ev_is E (by decide)]
    have hor : (4000 : Int) < data.length ∨ ¬ (4000 : Int) < data.length ∧ (step < 1 ∨ ¬ step < 1 ∧ 4000 < step) := by omega
    clear hb hc hnm
    rcases hor with h1 | ⟨h1, h2 | ⟨h2, h3⟩⟩
    all_goals
      go_enter Tryz.func15, Tryz.ntmps15
      go_wp2_with fail
      refine (NM.out _).mono ?_
      rintro e w1 ⟨rfl, b1⟩
      have ce := E2.out _ b1
      have B1 := Lib.hid b1
      clear b1 NM E2 E5
      go_wp2_with fail
      go_quiet (fail)
      go_wp2_with fail
      go_ret2
      exact ⟨rfl, below_drewN B1.out _⟩
  · have hnm' : nameB name = false := by simpa using hnm
    rw [hnm'] at NM
    rw [msC_name hnm', ev_is E (by decide)]
    clear hnm hnm' hc
    go_enter Tryz.func15, Tryz.ntmps15
    go_wp2_with fail
    refine (NM.out _).mono ?_
    rintro e w1 ⟨rfl, b1⟩
    have ce := E5.out _ b1
    have B1 := Lib.hid b1
    clear b1 NM E2 E5
    go_wp2_with fail
    go_quiet (fail)
    go_wp2_with fail
    go_ret2
    exact ⟨rfl, below_drewN B1.out _⟩
set_option maxRecDepth 100000 in
set_option maxHeartbeats 6400000 in
theorem bmarks_yes (name data : List UInt8) (step : Nat) (w : World) (hnm : nameB name = true) (hn : name.length ≤ 1000000000) (hd : data.length ≤ 4000) (h1 : 1 ≤ step) (h2 : step ≤ 4000) :
    Calls Tryz.prog 15 #[.string (bs name), .string (bs data), .int .i64 step] w fun e w' => ∃ r, e = .returned (.tuple #[r, .nilIface]) ∧ w'.ownsRow w.heap.size 30 3 r (data.length / step) (mkcells (mksL name data step (data.length / step))) ∧ Below w.heap.size w w' := by
  have NM := Lib.hid (fun w' => flname_any name w' (by unfold maxLen; omega))
  rw [hnm] at NM
  have hdz : (bs data).size = data.length := bs_size data
  have hI1 : ¬ (4000 : Int) < data.length := by omega
  have hI2 : ¬ (step : Int) < 1 := by omega
  have hI3 : ¬ (4000 : Int) < step := by omega
  have MR := Lib.hid (fun k (hk : step * (k + 1) ≤ data.length) w' => more_any (csum (data.take (step * k))) (bs ((data.drop (step * k)).take step)) w' (csum_lt _) (by rw [bs_size, List.length_take, List.length_drop]; omega))
  have MM := Lib.hid (fun k hk => marks_more data step k hk)
  have HC0 : Hid (csum (data.take (step * 0)) = 0) := Lib.hid (by rw [Nat.mul_zero, List.take_zero]; decide +kernel)
  have HM0 : Hid (mkcells (mksL name data step 0) = []) := Lib.hid (by unfold mksL mkcells; rfl)
  have HMS := Lib.hid (fun k => mksL_snoc name data step k)
  have SUB : Hid (∀ k, step * (k + 1) ≤ data.length → (bs data).extract (step * k) (step * (k + 1)) = bs ((data.drop (step * k)).take step)) := Lib.hid fun k hk => by
    apply eq_bs
    rw [Lib.extract_data, bs_list]
    congr 1
    rw [Nat.mul_add]; omega
  obtain ⟨i0, hi, hz0, hz1, hz2⟩ := info_parts infoMk
  have DV : Hid (∀ k : Nat, step * k ≤ data.length → ¬ step * (k + 1) ≤ data.length → data.length / step = k) := Lib.hid fun k h3 h4 => by
    rw [Nat.div_eq_iff (by omega)]
    rw [Nat.mul_comm] at h3
    rw [Nat.mul_comm] at h4
    rw [Nat.add_mul] at h4
    omega
  have KD : Hid (∀ k : Nat, step * k ≤ data.length → k ≤ 4000) := Lib.hid fun k h => by
    have : 1 * k ≤ step * k := Nat.mul_le_mul_right _ h1
    omega
  have MUL : Hid (∀ k : Nat, ((step * (k + 1) : Nat) : Int) = ((step * k : Nat) : Int) + step) := Lib.hid fun k => by rw [Nat.mul_add]; omega
  clear hnm
  go_enter Tryz.func15, Tryz.ntmps15
  go_wp2_with fail
  refine (NM.out _).mono ?_
  rintro e w1 ⟨rfl, b1⟩
  have B1 := Lib.hid b1
  clear b1 NM
  have START : Hid ((step : Int) = ((step * (0 + 1) : Nat) : Int)) := Lib.hid (by simp)
  go_wp2_with fail
  go_loopw [8, 9, 10] (fun o c n wr => ∃ k : Nat, n = .int .i64 ((step * (k + 1) : Nat) : Int) ∧ c = .int .u32 (csum (data.take (step * k)) : Nat) ∧ step * k ≤ data.length ∧ wr.ownsRow w.heap.size 30 3 o k (mkcells (mksL name data step k)) ∧ Below w.heap.size w wr) (fun _ _ n _ => data.length + step - (intOf n).toNat)
  case atStart => exact ⟨0, by rw [← START.out], by rw [HC0.out]; rfl, by simp, by rw [HM0.out]; exact World.ownsRow_nil _ _ _ _, B1.out⟩
  case round =>
    obtain ⟨k, rfl, rfl, hk, hown, bel⟩ := hrel
    have hk4 := KD.out k hk
    have HO := Lib.hid hown
    have BW := Lib.hid bel
    obtain ⟨va, vc, rfl⟩ := owns_slice' hown
    have MUL2 := MUL.out k
    have MUL3 := Lib.hid (MUL.out (k + 1))
    by_cases hle : step * (k + 1) ≤ data.length
    · have MRK := Lib.hid (MR.out k hle)
      rw [bs_list, MM.out k hle] at MRK
      have EX := SUB.out k hle
      have SN := Lib.hid (show mkcells (mksL name data step (k + 1)) = mkcells (mksL name data step k) ++ [.string (bs name), .int .i64 ((step * (k + 1) : Nat) : Int), .int .u32 (csum (data.take (step * (k + 1))) : Nat)] by rw [HMS.out k, mkcells_snoc]; rfl)
      have HN1 : Hid (k + 1 ≤ maxLen) := by show _ ≤ _; unfold maxLen; omega
      have HN2 : Hid ((k + 1) * 32 ≤ 140737488355328) := by show _ ≤ _; omega
      have HLE := Lib.hid hle
      generalize hP : step * (k + 1) = p at *
      generalize hQ : step * k = q at *
      have hIp : (p : Int) ≤ data.length := by omega
      have y0 : (p : Int) - step = q := by omega
      have y1 : (0 : Int) ≤ (q : Int) := by omega
      have y2 : (q : Int) ≤ p := by omega
      have y3 : (q : Int).toNat = q := by omega
      have y4 : (p : Int).toNat = p := by omega
      have HCS : Hid (step * (k + 1) = p) := Lib.hid hP
      have hw1 : IntKind.i64.wrap ((p : Int) + step) = (p : Int) + step := IntWalk.i64_in _ (by omega)
      have BZ := Lib.hid bel.size
      clear hown bel MUL2 hP hQ hle hk
      generalize csum (data.take q) = cq at *
      generalize hcp : csum (data.take p) = cp at *
      go_wp2_with fail
      refine (MRK.out _).mono ?_
      rintro e w2 ⟨rfl, rfl⟩
      go_wp2_with (at_builtin; refine wpList_append_own _ rfl _ _ 25 rfl w.heap.size 30 i0 _ 3 32 Tryz.underlying25 hi hz0 hz1 hz2 rfl (by decide) _ _ _ rfl (HO.out.alloc _) ⟨wr.heap.size, 0, none⟩ 1 1 [.string (bs name), .int .i64 (p : Int), .int .u32 (cp : Int)] rfl rfl (three_newsM (heap_alloc_new _ _)) (fun u hu => by simp at hu; rcases hu with rfl | rfl | rfl <;> rfl) HN1.out HN2.out (by have := BZ.out; simp; omega) ?_; intro v' w5 hown5 hgrow _; have HO5 := Lib.hid hown5; have B5 := Lib.hid ((BW.out.alloc BZ.out _).grown hgrow (by have := BZ.out; simp; omega) (fun j hj => (HO.out.lt j hj).1)); clear hown5 hgrow)
      go_wp2_with fail
      go_roundw
      case rel => exact ⟨k + 1, by rw [MUL3.out], by rw [HCS.out, hcp], by rw [HCS.out]; exact HLE.out, by rw [SN.out]; exact HO5.out, B5.out⟩
      case measure => simp [intOf]; omega
    · have D := Lib.hid (DV.out k hk hle)
      have hI : ¬ ((step * (k + 1) : Nat) : Int) ≤ data.length := by omega
      clear hle hown bel MUL2
      generalize step * (k + 1) = p at *
      go_wp2_with fail
      go_ret2
      rw [D.out]
      exact ⟨_, rfl, HO.out, BW.out⟩
end Go.Proofs.YtomaojpldinmgaaGreatDoor
