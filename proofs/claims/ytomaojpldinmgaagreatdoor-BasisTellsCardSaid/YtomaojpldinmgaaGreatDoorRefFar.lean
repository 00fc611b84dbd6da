/- The document's FarOf. -/
import Derived.Test.YtomaojpldinmgaaGreatDoorRefMark
import Derived.Test.YtomaojpldinmgaaGreatDoorBasFar
import Derived.Test.YtomaojpldinmgaaGreatDoorSubBs
namespace Go.Proofs.YtomaojpldinmgaaGreatDoor
open Go.RowKit
set_option linter.unusedVariables false

def PMk.rvals (m : PMk) : List Value := [.string (bs m.n), .int .i64 m.N, .int .i64 m.S]
def rmkcells (l : List PMk) : List Value := l.flatMap PMk.rvals
theorem PMk.rvals_len (m : PMk) : m.rvals.length = 3 := rfl
theorem rmkcells_len (l : List PMk) : (rmkcells l).length = l.length * 3 := flat_len _ 3 PMk.rvals_len l
theorem rmkcells_get (l : List PMk) (k : Nat) (h : k < l.length) : (rmkcells l)[k * 3]? = some (.string (bs l[k].n)) ∧ (rmkcells l)[k * 3 + 1]? = some (.int .i64 l[k].N) ∧ (rmkcells l)[k * 3 + 2]? = some (.int .i64 l[k].S) := by
  refine ⟨?_, ?_, ?_⟩
  · have := flat_get PMk.rvals 3 PMk.rvals_len l k 0 h (by omega); rw [Nat.add_zero] at this; exact this
  · exact flat_get PMk.rvals 3 PMk.rvals_len l k 1 h (by omega)
  · exact flat_get PMk.rvals 3 PMk.rvals_len l k 2 h (by omega)
/-- no mark beyond a number holds -/
def noneUp (name data : List UInt8) (l : List PMk) (n : Nat) : Prop := ∀ m ∈ l, okMk name data m = true → m.N ≤ n
theorem noneUp_at {name data : List UInt8} {l : List PMk} {n : Nat} {m : PMk} (hu : noneUp name data l n) (hm : m ∈ l) (h : m.n = name) (hN : m.N = n) (h1 : 1 ≤ n) (h2 : n ≤ data.length) (hs : csum (data.take n) = m.S) : farL name data l = n := by
  refine farL_is (by omega) hu (.inr ⟨m, hm, (okMk_iff _ _ _).2 ⟨h, by omega, by omega, ?_⟩, hN.symm⟩)
  rw [hN, Int.toNat_natCast, hs]
theorem noneUp_zero {name data : List UInt8} {l : List PMk} (hu : noneUp name data l 0) : farL name data l = 0 := farL_is (by omega) hu (.inl rfl)
theorem noneUp_start (name data : List UInt8) (l : List PMk) : noneUp name data l data.length := fun m _ h => ((okMk_iff _ _ _).1 h).2.2.1
theorem noneUp_down {name data : List UInt8} {l : List PMk} {n : Nat} (h1 : 1 ≤ n) (hu : noneUp name data l n) (hno : ∀ i, (h : i < l.length) → ¬ (l[i].n = name ∧ l[i].N = n ∧ csum (data.take n) = l[i].S)) : noneUp name data l (n - 1) := by
  intro m hm ho
  have h2 := hu m hm ho
  obtain ⟨i, hi, rfl⟩ := List.getElem_of_mem hm
  obtain ⟨b1, b2, b3, b4⟩ := (okMk_iff _ _ _).1 ho
  by_cases he : l[i].N = n
  · exact absurd ⟨b1, he, by rw [he, Int.toNat_natCast] at b4; exact b4⟩ (hno i hi)
  · omega
attribute [local irreducible] farL noneUp
set_option maxRecDepth 100000 in
set_option maxHeartbeats 6400000 in
theorem rfar_any (l : List PMk) (v : Value) (name data : List UInt8) (w : World) (hl : SliceIs w v 3 (rmkcells l)) (hd : data.length ≤ 100000) :
    Calls Tryz.prog 19 #[v, .string (bs name), .string (bs data)] w fun e w' => e = .returned (.int .i64 (farL name data l)) ∧ Below w.heap.size w w' := by
  obtain ⟨s, m, c, rfl, hn, h1, h2, hg⟩ := hl.get
  rw [rmkcells_len] at hn
  obtain rfl : m = l.length := by omega
  unfold maxLen at h2
  have HSL := Lib.hid hl
  have hdz : (bs data).size = data.length := bs_size data
  have SM := Lib.hid (fun (N : Nat) w' => sumOf_any (bs (data.take N)) w' (by rw [bs_size, List.length_take]; omega))
  simp only [bs_list] at SM
  have ST := Lib.hid (noneUp_start name data l)
  have UP := Lib.hid (fun n i (hi : i < l.length) (hu : noneUp name data l n) => noneUp_at (m := l[i]) hu (by simp))
  have U0 := Lib.hid (fun (hu : noneUp name data l 0) => noneUp_zero hu)
  have UD := Lib.hid (fun n (h : 1 ≤ n) (hu : noneUp name data l n) => noneUp_down h hu)
  have HDL := Lib.hid (show data.length ≤ 100000 from hd)
  generalize farL name data l = r at *
  clear hl hg
  go_enter Tryz.func19, Tryz.ntmps19
  go_wp2_with fail
  go_loopw [6, 7, 8] (fun _ n _ wr => ∃ k : Nat, n = .int .i64 k ∧ k ≤ data.length ∧ noneUp name data l k ∧ Below w.heap.size w wr) (fun _ n _ _ => (intOf n).toNat)
  case atStart => exact ⟨data.length, rfl, by omega, ST.out, Below.refl _ _⟩
  case round =>
    obtain ⟨k, rfl, hk, hu, bel⟩ := hrel
    have HU := Lib.hid hu
    have BW := Lib.hid bel
    clear hu bel
    by_cases hk0 : 0 < k
    · have hkI : (0 : Int) < k := by omega
      have hk64 : k ≤ 100000 := by have := HDL.out; omega
      have EX := sub_bs data 0 k
      rw [List.drop_zero, Nat.sub_zero] at EX
      have x1 : (k : Int) ≤ data.length := by omega
      have x2 : (0 : Int) ≤ (k : Int) := by omega
      go_wp2_with fail
      go_loopw [8] (fun i wr' => ∃ j : Nat, i = .int .i64 j ∧ j ≤ l.length ∧ (∀ t, (h : t < l.length) → t < j → ¬ (l[t].n = name ∧ l[t].N = k ∧ csum (data.take k) = l[t].S)) ∧ Below w.heap.size w wr') (fun i _ => l.length - (intOf i).toNat)
      case atStart => exact ⟨0, rfl, by omega, fun t h h2 => by omega, BW.out⟩
      case round =>
        obtain ⟨j, rfl, hj, hno, bel2⟩ := hrel
        have HNO := Lib.hid hno
        have BJ := Lib.hid bel2
        clear hno bel2
        by_cases hlt : j < l.length
        · have hltI : (j : Int) < l.length := by omega
          have CL := (HSL.out.below BJ.out).get
          obtain ⟨s0', n0', c0', e1, _, _, _, g1⟩ := CL
          cases e1
          obtain ⟨g2, g3, g4⟩ := rmkcells_get l j hlt
          obtain ⟨ad, rfl, d0⟩ := g1 _ _ g2
          obtain ⟨a', e', d1⟩ := g1 _ _ g3
          cases e'
          obtain ⟨a', e', d2⟩ := g1 _ _ g4
          cases e'
          clear g1 g2 g3 g4
          have KK := Lib.hid (show j + 1 ≤ l.length by omega)
          have y1 : (0 : Int) ≤ j := by omega
          have y2 : (j : Int).toNat = j := by omega
          have UPJ := Lib.hid (fun a b c => UP.out k j hlt HU.out a b hk0 hk c)
          have NX := Lib.hid (fun (hx : ¬ (l[j].n = name ∧ l[j].N = k ∧ csum (data.take k) = l[j].S)) => show ∀ t, (h : t < l.length) → t < j + 1 → ¬ (l[t].n = name ∧ l[t].N = k ∧ csum (data.take k) = l[t].S) from fun t ht htj => by
            by_cases he : t = j
            · subst he; exact hx
            · exact HNO.out t ht (by omega))
          generalize l[j] = x at d0 d1 d2 UPJ NX
          have d1 := cell_at d1
          have d2 := cell_at d2
          obtain ⟨xn, xN, xS⟩ := x
          simp only at d0 d1 d2 UPJ NX
          clear HNO UP U0 UD
          by_cases hx : xn = name
          · have hb : ((bs xn).toList == (bs name).toList) = true := by rw [bs_tlM, bs_tlM]; simpa using hx
            by_cases h3 : xN = k
            · have h3d : ((xN : Int) == (k : Int)) = true := by simpa using h3
              have SMK := Lib.hid (fun w' => SM.out k w')
              by_cases h5 : csum (data.take k) = xS
              · have h5b : ((csum (data.take k) : Int) == (xS : Int)) = true := by rw [beq_iff_eq]; omega
                have RES := Lib.hid (UPJ.out hx h3 h5)
                subst h3
                generalize csum (data.take k) = cs at *
                clear hx NX UPJ
                go_wp2_with fail
                go_quiet ((go_at_call 17; first | exact Calls.quiet_of_same (SMK.out _) | exact quiet_left (SMK.out _) | exact quiet_add_left (SMK.out _)))
                go_wp2_with fail
                go_ret
                exact ⟨by rw [RES.out]; rfl, below_drewN BJ.out _⟩
              · have h5b : ((csum (data.take k) : Int) == (xS : Int)) = false := by rw [beq_eq_false_iff_ne]; omega
                have NX2 := Lib.hid (NX.out (fun h => h5 h.2.2))
                subst h3
                clear hx NX UPJ
                generalize hcs : csum (data.take k) = cs at h5b SMK
                go_wp2_with fail
                go_quiet ((go_at_call 17; first | exact Calls.quiet_of_same (SMK.out _) | exact quiet_left (SMK.out _) | exact quiet_add_left (SMK.out _)))
                go_wp2_with fail
                go_roundw
                case rel => subst hcs; exact ⟨j + 1, by go_num, KK.out, NX2.out, below_drewN BJ.out _⟩
                case measure => simp [intOf]; omega
            · have h3d : ((xN : Int) == (k : Int)) = false := by simpa using h3
              have NX2 := Lib.hid (NX.out (fun h => h3 h.2.1))
              clear hx NX UPJ
              go_wp2_with fail
              go_roundw
              case rel => exact ⟨j + 1, by go_num, KK.out, NX2.out, BJ.out⟩
              case measure => simp [intOf]; omega
          · have hb : ((bs xn).toList == (bs name).toList) = false := by rw [bs_tlM, bs_tlM]; simpa using hx
            have NX2 := Lib.hid (NX.out (fun h => hx h.1))
            clear hx NX UPJ
            go_wp2_with fail
            go_roundw
            case rel => exact ⟨j + 1, by go_num, KK.out, NX2.out, BJ.out⟩
            case measure => simp [intOf]; omega
        · have hltI : ¬ (j : Int) < l.length := by omega
          have DN := Lib.hid (UD.out k hk0 HU.out (fun i h => HNO.out i h (by omega)))
          clear HNO UP U0 UD
          go_wp2_with fail
          go_roundw
          case rel => exact ⟨k - 1, by go_num, by omega, DN.out, BJ.out⟩
          case measure => simp [intOf]; omega
    · have hkI : ¬ (0 : Int) < k := by omega
      obtain rfl : k = 0 := by omega
      have Y := Lib.hid (U0.out HU.out)
      go_wp2_with fail
      go_ret
      exact ⟨by rw [Y.out]; rfl, BW.out⟩
end Go.Proofs.YtomaojpldinmgaaGreatDoor
