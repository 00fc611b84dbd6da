/- Texts of one proof, one behind the other: FilChk. -/
import Derived.Test.YtdpoalbbcmkceaaGreatDoorB14
import Derived.Test.YtdpoalbbcmkceaaGreatDoorB06
import Derived.Shelf.Abstract
/- Contracts of files.checked (whatever the function that it asks), files.Check, files.lines. -/
namespace Go.Proofs.YtdpoalbbcmkceaaGreatDoor
open Go.RowKit
set_option linter.unusedVariables false

theorem bs_tl' (l : List UInt8) : (bs l).toList = l := by rw [ByteArray.toList_eq, bs_list]
theorem run_leq {P : Program} (t : TypeId) (a b : List UInt8) (w : World) : (binOp .leq t (.string (bs a)) (.string (bs b))).run P w = .ok (.bool (!ltL b a)) w := by
  have : (Op.bytesLess a b || a == b) = !ltL b a := by
    rcases ltL_tri a b with h | h | h
    · rw [ltL_asymm h]; have : Op.bytesLess a b = true := h; rw [this]; rfl
    · subst h; rw [ltL_irrefl]; simp
    · rw [h]
      have h1 : Op.bytesLess a b = false := ltL_asymm h
      have h2 : (a == b) = false := by simpa using (fun e => ltL_ne h e.symm)
      rw [h1, h2]; rfl
  simp only [binOp, Op.stringOp, bs_tl']
  simp [← this]
set_option maxRecDepth 100000 in
set_option maxHeartbeats 6400000 in
theorem flchecked_any (E : Nat → Addr) (l : List PL) (fn : Nat) (lb : Array Value) (eg : ∀ args w, (callFunc fn args).run Tryz.prog w = .ok (.enter fn args) w) (w : World) (hlen : l.length ≤ 1000000000) (hnm : ∀ x ∈ l, x.n.length ≤ maxLen)
    (hp : ∀ (W : World) (k : Nat) (h : k < l.length), Below w.heap.size w W → Calls Tryz.prog fn (#[.int .i64 k] ++ lb) W fun e w' => e = .returned (.agg #[.string (bs l[k].n), .int .i64 l[k].N, .int .u32 l[k].S]) ∧ Below W.heap.size W w')
    (hB : Has E w 2) (hN : Has E w 5) (hF : Has E w 8) (hO : Has E w 9) :
    Calls Tryz.prog 32 #[.int .i64 l.length, .func (.func fn) #[] lb] w fun e w' => ∃ v, e = .returned v ∧ FErr E w' v (lnFault l).1 (lnFault l).2 ∧ Below w.heap.size w w' := by
  have HB := Lib.hid hB
  have HN := Lib.hid hN
  have HF := Lib.hid hF
  have HO := Lib.hid hO
  have HP := Lib.hid hp
  have HNM := Lib.hid hnm
  have cF : w.cell? ⟨7, 0, none⟩ = some (errv (E 8)) := hF
  unfold errv at cF
  clear hB hN hF hO hp hnm
  by_cases hfull : 20 < l.length
  · have hI : (20 : Int) < l.length := by omega
    have FA := Lib.hid (lnFault_full hfull)
    go_enter Tryz.func32, Tryz.ntmps32
    go_wp2_with fail
    go_ret
    exact ⟨_, rfl, by rw [FA.out]; have := FErr.bare E w (c := 8) (by decide); unfold errv at this; exact this, Below.refl _ _⟩
  · have hI : ¬ (20 : Int) < l.length := by omega
    have FA := Lib.hid (lnFault_from hfull)
    clear cF
    go_enter Tryz.func32, Tryz.ntmps32
    go_wp2_with fail
    go_loopw [13, 5, 6, 7, 8] (fun i last _ _ _ wr => ∃ (k : Nat) (la : List UInt8), i = .int .i64 k ∧ k ≤ l.length ∧ last = .string (bs la) ∧ lnFault l = lnFrom k la (l.drop k) ∧ Below w.heap.size w wr) (fun i _ _ _ _ _ => l.length - (intOf i).toNat)
    case atStart => exact ⟨0, [], rfl, by omega, by unfold bs; rfl, FA.out, Below.refl _ _⟩
    case round =>
      obtain ⟨k, la, rfl, hk, rfl, hf, bel⟩ := hrel
      have HFA := Lib.hid hf
      clear hf
      by_cases hlt : k < l.length
      · have hltI : (k : Int) < l.length := by omega
        have CL := Lib.hid (HP.out wr k hlt bel)
        have HX := Lib.hid (HNM.out l[k] (List.getElem_mem _))
        have BAD := Lib.hid (fun c hc h0 => HFA.out.trans (lnFrom_bad (last := la) hlt (c := c) hc h0))
        have NEXT := Lib.hid (fun h0 => HFA.out.trans (lnFrom_step (last := la) hlt h0))
        generalize l[k] = x at CL HX BAD NEXT
        obtain ⟨xn, xN, xS⟩ := x
        simp only [] at CL HX BAD NEXT
        have KK := Lib.hid (show k + 1 ≤ l.length by omega)
        have NMX := Lib.hid (fun w' => flname_any xn w' HX.out)
        have HBEL := Lib.hid bel
        go_wp2_with fail
        refine CL.out.mono ?_
        rintro e w1 ⟨rfl, b1⟩
        have bel1 := below_trans' bel b1
        have belA := bel1.alloc bel1.size (.cells #[.string (bs xn), .int .i64 xN, .int .u32 xS] 39)
        clear bel
        go_wp2_with fail
        refine (NMX.out _).mono ?_
        rintro e w2 ⟨rfl, b2⟩
        have bel2 := below_trans' belA b2
        have p0 : w2.cell? ⟨w1.heap.size, 0, none⟩ = some (.string (bs xn)) := (b2.cell (p := ⟨w1.heap.size, 0, none⟩) (by simp)).trans (by simp)
        have p1 : w2.cell? ⟨w1.heap.size, 1, none⟩ = some (.int .i64 xN) := (b2.cell (p := ⟨w1.heap.size, 1, none⟩) (by simp)).trans (by simp)
        have c2 : w2.cell? ⟨1, 0, none⟩ = some (errv (E 2)) := HB.out.below bel2
        have c5 : w2.cell? ⟨4, 0, none⟩ = some (errv (E 5)) := HN.out.below bel2
        have c9 : w2.cell? ⟨8, 0, none⟩ = some (errv (E 9)) := HO.out.below bel2
        unfold errv at c2 c5 c9
        have HBE := Lib.hid bel2
        clear b1 bel1 belA b2 bel2
        cases hnb : nameB xn with
        | false =>
          have hb := Lib.hid (BAD.out 5 (lnBad_name hnb) (by decide))
          clear BAD NEXT c2 c9 p0 p1 hnb
          go_wp2_with fail
          go_ret
          exact ⟨_, rfl, FErr.new E _ _ (by decide) _ _ (by simp) _ hb.out, HBE.out.alloc HBE.out.size _⟩
        | true =>
          by_cases hbd : xN < 0 ∨ 4000 < xN
          · have hb := Lib.hid (BAD.out 2 (lnBad_bound hnb hbd) (by decide))
            clear BAD NEXT c5 c9 p0 hnb
            rcases (show xN < 0 ∨ ¬ xN < 0 ∧ 4000 < xN by omega) with h | ⟨h, h'⟩
            all_goals
              go_wp2_with fail
              go_ret
              exact ⟨_, rfl, FErr.new E _ _ (by decide) _ _ (by simp) _ hb.out, HBE.out.alloc HBE.out.size _⟩
          · have h1 : ¬ xN < 0 := by omega
            have h2 : ¬ 4000 < xN := by omega
            rcases Nat.eq_zero_or_pos k with hk0 | hkp
            · have hb := Lib.hid (NEXT.out (by rw [hk0]; exact lnBad_first hnb hbd))
              have hkI : ¬ (0 : Int) < k := by omega
              have hkD : decide ((0 : Int) < k) = false := by simpa using hkI
              clear BAD NEXT hk0 hbd hnb c2 c5 c9
              go_wp2_with fail
              go_roundw
              case rel => exact ⟨k + 1, xn, by go_num, KK.out, rfl, hb.out, HBE.out⟩
              case measure => simp [intOf]; omega
            · have hkb : (k == 0) = false := by simp; omega
              have hkI : (0 : Int) < k := by omega
              cases hor : ltL la xn with
              | true =>
                have hb := Lib.hid (NEXT.out (lnBad_next hnb hbd hor))
                have hle : ∀ w, (binOp .leq 9 (.string (bs xn)) (.string (bs la))).run Tryz.prog w = .ok (.bool false) w := fun w => by rw [run_leq, hor]; rfl
                clear BAD NEXT hbd hnb hor hkb c2 c5 c9
                go_wp2_with fail
                go_roundw
                case rel => exact ⟨k + 1, xn, by go_num, KK.out, rfl, hb.out, HBE.out⟩
                case measure => simp [intOf]; omega
              | false =>
                have hb := Lib.hid (BAD.out 9 (by rw [hkb]; exact lnBad_order hnb hbd hor) (by decide))
                have hle : ∀ w, (binOp .leq 9 (.string (bs xn)) (.string (bs la))).run Tryz.prog w = .ok (.bool true) w := fun w => by rw [run_leq, hor]; rfl
                clear BAD NEXT hbd hnb hor hkb c2 c5
                go_wp2_with fail
                go_ret
                exact ⟨_, rfl, FErr.new E _ _ (by decide) _ _ (by simp) _ hb.out, HBE.out.alloc HBE.out.size _⟩
      · have hltI : ¬ (k : Int) < l.length := by omega
        have hb := Lib.hid (HFA.out.trans (lnFrom_end (last := la) (by omega : l.length ≤ k)))
        go_wp2_with fail
        go_ret
        exact ⟨_, rfl, by rw [hb.out]; exact FErr.nil E _, bel⟩
end Go.Proofs.YtdpoalbbcmkceaaGreatDoor
