/-
  ScriptSendsCardSaid ('packhorse/packhorselaw4.ScriptSends'): for every input that can be read the Go law returns true, and its arguments read as before; the listed errors lie as the text lays them. The frame written by program (mkl.py).
-/
import Derived.Test.YtppkeophochgiaaGreatDoorRows
import Derived.Test.YtppkeophochgiaaGreatDoorCards
import Derived.Test.YtppkeophochgiaaGreatDoorTie
import Derived.Test.YtppkeophochgiaaGreatDoorB03
import Derived.Test.YtppkeophochgiaaGreatDoorB05
import Derived.Test.YtppkeophochgiaaGreatDoorB11
import Derived.Test.YtppkeophochgiaaGreatDoorB04
import Derived.WalkKit
import Derived.ProofKit
import Derived.OpenShut
import Derived.ShutString
import Derived.Below
import Derived.ChangeOld
import Derived.Carry
import Derived.Lay
import Derived.LaidMore
import Derived.SevenTiedAt
import Derived.LaidSub
import Derived.Test.YtppkeophochgiaaGreatDoorB51
import Derived.Test.YtppkeophochgiaaGreatDoorB47
import Derived.Test.YtppkeophochgiaaGreatDoorB50
import Derived.Test.YtppkeophochgiaaGreatDoorC02
import Derived.Test.YtppkeophochgiaaGreatDoorB32
import Derived.Deep.QuietTactic
import Derived.BigQuiet
/- What ScriptSends plays behind the puttings, and what that answers. No program is in sight. -/
namespace Go.Proofs.YtppkeophochgiaaGreatDoor
open Go.RowKit
set_option linter.unusedVariables false
def wSend : List UInt8 := [115, 101, 110, 100]
def sendL (n : Nat) : List UInt8 := glueL [wSend, Lib.decDigits n, [54], [48]]
def lFrom : List UInt8 := [108, 105, 115, 116, 32, 102, 114, 111, 109]
def lTo : List UInt8 := [108, 105, 115, 116, 32, 116, 111]
def lPlan : List UInt8 := [112, 108, 97, 110]
def tailL (n : Nat) : List (List UInt8) := [sendL n, lFrom, lTo, lPlan]
theorem sendL_is (n : Nat) : sendL n = [115, 101, 110, 100, 32] ++ Lib.decDigits n ++ [32, 54, 32, 48] := by
  unfold sendL wSend
  simp [glueL]
theorem sendL_len {n : Nat} (h : n ≤ 999999) : (sendL n).length ≤ 20 := by
  have := dec_len_le (n := n) (k := 5) (by omega)
  rw [sendL_is]
  simp only [List.length_append, List.length_cons, List.length_nil]
  omega
theorem play_send (s : SP) {n : Nat} (h : n ≤ 999999) : s.play (sendL n) = (s.setF false (SP.sent s.fr s.tt [n, 6, 0]), txDone, 0) := by
  have hd := dec_len_le (n := n) (k := 5) (by omega)
  have hp : SP.wPut.isPrefixOf (sendL n) = false := by
    rw [sendL_is]; rfl
  have hs : splC 32 (sendL n) = wSend :: [Lib.decDigits n, [54], [48]] := by
    unfold sendL
    refine splC_glue _ (by simp) (fun a ha => ?_)
    simp only [List.mem_cons, List.not_mem_nil, or_false] at ha
    rcases ha with rfl | rfl | rfl | rfl
    · decide
    · exact dec_no32 n
    · decide
    · decide
  have hn : SP.nums [Lib.decDigits n, [54], [48]] = some [n, 6, 0] := by
    have e1 := nm_dec n 6 (by omega)
    have e2 : SP.nums [[54], [48]] = some [6, 0] := by kernel_rfl
    unfold SP.nums
    rw [e1, e2]
  unfold SP.play
  rw [if_neg (by simp [hp]), hs]
  have hc : cmdOf ((wSend :: [Lib.decDigits n, [54], [48]]).headD []) = some .send := by kernel_rfl
  rw [hc]
  simp only [Cmd.words, true_or, if_true, List.tail_cons]
  show s.send [Lib.decDigits n, [54], [48]] = _
  exact send_some hn
theorem play_from (s : SP) : s.play lFrom = s.list wFrom := by kernel_rfl
theorem play_to (s : SP) : s.play lTo = s.list wTo := by kernel_rfl
theorem play_plan (s : SP) : s.play lPlan = s.plan := by kernel_rfl
theorem list_same (s : SP) (a : List UInt8) (h : (sideW a).isSome = true) : (s.list a).1 = s ∧ (s.list a).2.2 = 0 := by
  unfold SP.list
  cases e : sideW a with
  | none => rw [e] at h; cases h
  | some b => exact ⟨rfl, rfl⟩
/-- behind any puttings: done, the same list twice, and a plan that keeps all -/
theorem tail_run {s : SP} (h : SInv s) {n : Nat} (hn : n ≤ 999999) : ∃ Z P, s.run (tailL n) = [txDone, Z, Z, P] ∧ P.length ≤ 2000 ∧ ∀ a ∈ splC 32 P, keepW a := by
  have L := sends_list h [n, 6, 0]
  have K := sends_plan h [n, 6, 0]
  have I : SInv ({ s with tt := SP.sent s.fr s.tt [n, 6, 0] } : SP) := ⟨h.fr, (sent_law h.fr h.tt _).1, h.tpb, h.tpc, h.gk⟩
  have G := plan_glue I.fr.wf I.tt.wf
  have e1 : (s.setF false (SP.sent s.fr s.tt [n, 6, 0])) = ({ s with tt := SP.sent s.fr s.tt [n, 6, 0] } : SP) := rfl
  generalize hS : ({ s with tt := SP.sent s.fr s.tt [n, 6, 0] } : SP) = S at *
  obtain ⟨f1, f2⟩ := list_same S wFrom (by decide)
  obtain ⟨t1, t2⟩ := list_same S wTo (by decide)
  refine ⟨(S.list wFrom).2.1, (S.plan).2.1, ?_, ?_, K⟩
  · unfold tailL
    simp only [SP.run, play_send s hn, e1, play_from, play_to, play_plan, f1, t1]
    have q1 : SP.told (txDone, 0) = txDone := rfl
    have q2 : SP.told (S.list wFrom).2 = (S.list wFrom).2.1 := by unfold SP.told; rw [if_pos f2]
    have q3 : SP.told (S.list wTo).2 = (S.list wFrom).2.1 := by rw [L.2]; unfold SP.told; rw [if_pos t2]
    have q4 : SP.told (S.plan).2 = (S.plan).2.1 := rfl
    rw [q1, q2, q3, q4]
  · show (joinL ((planL (S.fr.map PF.line) (S.tt.map PF.line)).map SP.stepT)).length ≤ 2000
    unfold joinL
    split
    · decide
    · omega
/-- the lines that put -/
def putsL (l : List (List UInt8)) : List (List UInt8) := l.filter fun x => SP.wPut.isPrefixOf x
theorem putsL_yes {l : List (List UInt8)} {x : List UInt8} (h : SP.wPut.isPrefixOf x = true) : putsL (l ++ [x]) = putsL l ++ [x] := by unfold putsL; rw [List.filter_append, List.filter_cons_of_pos h]; rfl
theorem putsL_no {l : List (List UInt8)} {x : List UInt8} (h : SP.wPut.isPrefixOf x = false) : putsL (l ++ [x]) = putsL l := by unfold putsL; rw [List.filter_append, List.filter_cons_of_neg (by simp [h])]; simp
theorem putsL_len (l : List (List UInt8)) : (putsL l).length ≤ l.length := List.length_filter_le _ _
theorem putsL_mem {l : List (List UInt8)} {x : List UInt8} (h : x ∈ putsL l) : x ∈ l := (List.mem_filter.1 h).1
end Go.Proofs.YtppkeophochgiaaGreatDoor

/- ScriptSends: behind send the plan keeps all, and the lists are the same. -/
namespace Go.Proofs.YtppkeophochgiaaGreatDoor
open Go.RowKit
set_option linter.unusedVariables false
theorem bsDone : bs txDone = ⟨#[100, 111, 110, 101]⟩ := by unfold txDone bs; rfl
theorem addr_pos (a : Addr) {n : Nat} (h : n ≠ 0) : a.add n = ⟨a.block, a.off + n, none⟩ := by unfold Addr.add; rw [if_neg h]
theorem putsL_zero (ls : List (List UInt8)) : strV (putsL (ls.take 0)) = [] ∧ (putsL (ls.take 0)).length = 0 := ⟨rfl, rfl⟩
theorem litT : (⟨#[115, 101, 110, 100, 32]⟩ : ByteArray) = bs [115, 101, 110, 100, 32] ∧ (⟨#[32, 54, 32, 48]⟩ : ByteArray) = bs [32, 54, 32, 48] := by unfold bs; exact ⟨rfl, rfl⟩
theorem tailV (n : Nat) : strV (tailL n) = [.string (bs (sendL n)), .string ⟨#[108, 105, 115, 116, 32, 102, 114, 111, 109]⟩, .string ⟨#[108, 105, 115, 116, 32, 116, 111]⟩, .string ⟨#[112, 108, 97, 110]⟩] := by
  unfold tailL strV lFrom lTo lPlan bs; rfl
theorem strV_app' (a b : List (List UInt8)) : strV (a ++ b) = strV a ++ strV b := by unfold strV; exact List.map_append
theorem tailL_len (n : Nat) : (tailL n).length = 4 := rfl
theorem tailL_mem {n : Nat} (h : n ≤ 999999) : ∀ x ∈ tailL n, x.length ≤ 200 := by
  intro x hx
  unfold tailL at hx
  simp only [List.mem_cons, List.not_mem_nil, or_false] at hx
  rcases hx with rfl | rfl | rfl | rfl
  · have := sendL_len h; omega
  · decide
  · decide
  · decide
theorem four_at (R : List (List UInt8)) (a b c d : List UInt8) : (strV (R ++ [a, b, c, d]))[R.length]? = some (.string (bs a)) ∧ (strV (R ++ [a, b, c, d]))[R.length + 1]? = some (.string (bs b)) ∧ (strV (R ++ [a, b, c, d]))[R.length + 2]? = some (.string (bs c)) ∧ (strV (R ++ [a, b, c, d]))[R.length + 3]? = some (.string (bs d)) := by
  unfold strV
  refine ⟨?_, ?_, ?_, ?_⟩ <;> (rw [List.map_append, List.getElem?_append_right (by simp)]; simp)
attribute [local irreducible] SP.run SP.after putsL sendL tailL
set_option maxRecDepth 100000 in
set_option maxHeartbeats 51200000 in
theorem scriptSends_walk (E : Nat → Addr) (s0 : Option Addr) (n0 c0 : Nat) (a0 : List ByteArray) (a1 : Int) (w : World) (hl : SliceIs w (.slice s0 n0 c0) 1 (a0.map .string) ∧ ∀ s ∈ a0, s.size ≤ maxLen) (hi : (Lit.int .i64 a1).wf = true) (hh : Hand w) (ht : TabW w) (hm : MaxW w) (h1 : ∀ c ∈ [1, 2, 3, 4, 5, 6, 8, 9, 10, 11, 12, 14, 13], Has E w c ∧ Sent w (E c)) (h2 : ∀ c ∈ [1, 2, 3, 4, 5, 6, 8, 9, 10, 11, 12, 14, 13], ∀ c' ∈ [1, 2, 3, 4, 5, 6, 8, 9, 10, 11, 12, 14, 13], c ≠ c' → E c ≠ E c') (hx : ∀ c ∈ [1, 2, 3, 4, 5, 6, 8, 9, 10, 11, 12, 14, 13], w.cell? (E c) = some (.string (bs (textOf c)))) :
    Calls Tryz.prog 5 #[.slice s0 n0 c0, .int .i64 a1] w fun e w' => e = .returned (.bool true) ∧ Below w.heap.size w w' := by
  obtain ⟨hv, hbig⟩ := hl
  rw [of_bytes] at hv
  have hB : ∀ x ∈ a0.map (fun s => s.data.toList), x.length ≤ maxLen := fun x hx => by
    obtain ⟨s, hs, rfl⟩ := List.mem_map.1 hx
    exact hbig s hs
  generalize a0.map (fun s => s.data.toList) = ls at *
  have HE := Lib.hid (renv_of (by intro c a b d; simp; omega) hh ht hm h1 hx)
  have HV := Lib.hid hv
  have HEL := Lib.hid (hello_ok E w HE.out)
  have HLG := Lib.hid (fun (w' : World) (b : Below w.heap.size w w') => long_any ls _ 30 w' (hv.below b) (by omega) hB)
  have hlen : n0 = ls.length ∧ n0 ≤ c0 ∧ c0 ≤ maxLen := by
    obtain ⟨s', n', c', e, e2, e3, e4, _⟩ := hv.get
    cases e
    rw [strV_len] at e2; exact ⟨by omega, e3, e4⟩
  obtain ⟨rfl, cc0, cc1⟩ := hlen
  unfold maxLen at cc1
  obtain ⟨i0, hi0, hz0, hz1, hz2⟩ := info_parts infoStr
  clear hv hbig hi hh ht hm h1 h2 hx hB
  go_enter Tryz.func5, Tryz.ntmps5
  go_wp2_with fail
  refine HEL.out.mono ?_
  rintro e w1 ⟨rfl, b1⟩
  have B1 := Lib.hid b1
  have HLG1 := Lib.hid (HLG.out _ b1)
  clear b1 HEL HLG
  go_wp2_with fail
  refine HLG1.out.mono ?_
  rintro e w2 ⟨b, rfl, hb, rfl⟩
  cases b with
  | true =>
    clear hb HLG1
    go_wp2_with fail
    go_ret
    exact ⟨rfl, B1.out⟩
  | false =>
    obtain ⟨hl30, hall⟩ := hb rfl
    have HALL := Lib.hid hall
    clear hb HLG1 hall
    by_cases k0 : a1 < 0
    · go_wp2_with fail
      go_ret
      exact ⟨rfl, B1.out⟩
    · by_cases k1 : (999999 : Int) < a1
      · go_wp2_with fail
        go_ret
        exact ⟨rfl, B1.out⟩
      · obtain ⟨n, rfl⟩ : ∃ n : Nat, a1 = n := ⟨a1.toNat, by omega⟩
        have hn9 : n ≤ 999999 := by omega
        have HV1 := Lib.hid (HV.out.below B1.out)
        have PZ := Lib.hid putsL_zero
        go_wp2_with fail
        go_loopw [6, 7] (fun o i wr => ∃ j : Nat, i = .int .i64 j ∧ j ≤ ls.length ∧ wr.ownsRow w1.heap.size 9 1 o (putsL (ls.take j)).length (strV (putsL (ls.take j))) ∧ Below w1.heap.size w1 wr) (fun _ i _ => ls.length - (intOf i).toNat)
        case atStart => exact ⟨0, rfl, by omega, by rw [(PZ.out ls).1, (PZ.out ls).2]; exact World.ownsRow_nil _ _ _ _, Below.refl _ _⟩
        case round =>
          obtain ⟨j, rfl, hj, hown, bel⟩ := hrel
          have HO := Lib.hid hown
          have BW := Lib.hid bel
          have HPL := Lib.hid (putsL_len (ls.take j))
          obtain ⟨va, vc, rfl⟩ := owns_slice hown
          clear hown bel
          by_cases hlt : j < ls.length
          · have hltI : (j : Int) < ls.length := by omega
            obtain ⟨s0', n0', c0', e1, _, _, _, g1⟩ := (HV1.out.below BW.out).get
            cases e1
            obtain ⟨ad, rfl, d0⟩ := g1 _ _ (strV_at ls j hlt)
            have x1 : (0 : Int) ≤ j := by omega
            have x2 : (j : Int).toNat = j := by omega
            have KK := Lib.hid (show j + 1 ≤ ls.length by omega)
            have hmx := HALL.out ls[j] (List.getElem_mem _)
            have TK := Lib.hid (show ls.take (j + 1) = ls.take j ++ [ls[j]] from List.take_succ_eq_append_getElem hlt)
            generalize ls[j] = y at d0 hmx TK
            clear g1
            by_cases h4 : y.length < 4
            · have hI : (y.length : Int) < 4 := by omega
              have NX := Lib.hid (putsL_no (l := ls.take j) (put_short h4))
              go_wp2_with fail
              go_roundw
              case rel => exact ⟨j + 1, by go_num, KK.out, by rw [TK.out, NX.out]; exact HO.out, BW.out⟩
              case measure => have := KK.out; simp [intOf]; omega
            · have hI : ¬ (y.length : Int) < 4 := by omega
              have hI2 : (4 : Int) ≤ y.length := by omega
              have EX : (bs y).extract 0 4 = bs (y.take 4) := by rw [bs_take, bs_list]
              cases hb : SP.wPut.isPrefixOf y with
              | true =>
                have q1 := tl_eq (y.take 4) [112, 117, 116, 32] ((put_iff y).1 hb)
                have NX := Lib.hid (putsL_yes (l := ls.take j) hb)
                have hpl := HPL.out
                rw [List.length_take] at hpl
                have NV := Lib.hid (strV_snoc (putsL (ls.take j)) y)
                have NL := Lib.hid (show (putsL (ls.take j) ++ [y]).length = (putsL (ls.take j)).length + 1 by simp)
                generalize putsL (ls.take j) = PS at *
                have HN1 : Hid (PS.length + 1 ≤ maxLen) := by show _ ≤ _; unfold maxLen; omega
                have HN2 : Hid ((PS.length + 1) * 16 ≤ 140737488355328) := by show _ ≤ _; omega
                have HSZ := Lib.hid BW.out.size
                clear hb hpl
                go_wp2_with (at_builtin; refine Hid.out ?_)
                refine Lib.hid ?_
                refine wpList_append_own _ rfl _ _ 22 rfl w1.heap.size 9 i0 _ 1 16 Tryz.underlying22 hi0 hz0 hz1 hz2 rfl (by decide) _ _ _ rfl (HO.out.alloc _) ⟨wr.heap.size, 0, none⟩ 1 1 [.string (bs y)] rfl rfl (one_news (by simp)) (one_cell rfl) HN1.out HN2.out (by have := HSZ.out; simp; omega) ?_
                intro v' w5 hown5 hgrow _
                have HO5 := Lib.hid hown5
                have B5 := Lib.hid ((BW.out.alloc HSZ.out _).grown hgrow (by have := HSZ.out; simp; omega) (fun j hj => (HO.out.lt j hj).1))
                clear hown5 hgrow
                go_wp2_with fail
                go_roundw
                case rel => exact ⟨j + 1, by go_num, KK.out, by rw [TK.out, NX.out, NV.out, NL.out]; exact HO5.out, B5.out⟩
                case measure => have := KK.out; simp [intOf]; omega
              | false =>
                have q1 := tl_ne (y.take 4) [112, 117, 116, 32] (fun h => by rw [(put_iff y).2 h] at hb; cases hb)
                have NX := Lib.hid (putsL_no (l := ls.take j) hb)
                clear hb
                go_wp2_with fail
                go_roundw
                case rel => exact ⟨j + 1, by go_num, KK.out, by rw [TK.out, NX.out]; exact HO.out, BW.out⟩
                case measure => have := KK.out; simp [intOf]; omega
          · have hltI : ¬ (j : Int) < ls.length := by omega
            obtain rfl : j = ls.length := by omega
            rw [List.take_length] at HO HPL
            have hMEM := Lib.hid (fun x (hx : x ∈ putsL ls) => HALL.out x (putsL_mem hx))
            have hIV := after_inv (putsL ls) SP.zero zero_inv (fun x hx => by have := hMEM.out x hx; omega)
            obtain ⟨Z, P, hT1, hT2, hT3⟩ := tail_run hIV hn9
            have RUNX : SP.zero.run (putsL ls ++ tailL n) = SP.zero.run (putsL ls) ++ [txDone, Z, Z, P] := by rw [SP.run_append, hT1]
            have RL := SP.run_len SP.zero (putsL ls)
            have hpl := HPL.out
            have RN := Lib.hid (fun (w' : World) (v : Value) (b : Below w.heap.size w w') (hv : SliceIs w' v 1 (strV (putsL ls ++ tailL n))) => srun_any (E := E) (putsL ls ++ tailL n) v w' hv (HE.out.below b) (by rw [List.length_append, tailL_len]; omega) (fun x hx => by
              rcases List.mem_append.1 hx with hx | hx
              · have := hMEM.out x hx; omega
              · exact tailL_mem hn9 x hx))
            rw [RUNX, List.length_append, tailL_len] at RN
            have HK := Lib.hid hT3
            have SV := Lib.hid (strV_app' (putsL ls) (tailL n))
            have TV := Lib.hid (tailV n)
            have SIS := sendL_is n
            generalize SP.zero.run (putsL ls) = R0 at *
            generalize sendL n = SN at *
            have hdl := dec_len_le (n := n) (k := 5) (by omega)
            have DC := Lib.hid (fun w' => rdecimal_any n w' (by omega))
            generalize Lib.decDigits n = D at *
            obtain ⟨Y1, hY1⟩ : ∃ Y, Y = [115, 101, 110, 100, 32] ++ D := ⟨_, rfl⟩
            have hA1 : (⟨#[115, 101, 110, 100, 32]⟩ : ByteArray) ++ bs D = bs Y1 := by rw [litT.1, hY1]; exact bs_add _ _
            have hA2 : bs Y1 ++ ⟨#[32, 54, 32, 48]⟩ = bs SN := by rw [litT.2, SIS, hY1]; exact bs_add _ _
            have l1 : Y1.length ≤ 11 := by rw [hY1, List.length_append]; simp; omega
            have hc1 : ¬ 9223372036854775807 < 5 + D.length := by omega
            have hc2 : ¬ 9223372036854775807 < Y1.length + 4 := by omega
            have HN1 : Hid ((putsL ls).length + 4 ≤ maxLen) := by show _ ≤ _; unfold maxLen; omega
            have HN2 : Hid (((putsL ls).length + 4) * 16 ≤ 140737488355328) := by show _ ≤ _; omega
            have HRL := Lib.hid RL
            have HSZ := Lib.hid BW.out.size
            clear hMEM hIV hT1 hT3 RUNX RL SIS hY1 HPL
            go_wp2_with fail
            refine (DC.out _).mono ?_
            rintro e w3 ⟨rfl, b3⟩
            have B3 := Lib.hid (below_trans' BW.out b3)
            have HO3 := Lib.hid (owns_below HO.out b3)
            clear b3 DC
            go_wp2_with (at_builtin; refine Hid.out ?_)
            refine Lib.hid ?_
            refine wpList_append_is rfl _ _ 22 rfl w1.heap.size 9 i0 _ 1 16 Tryz.underlying22 hi0 hz0 hz1 hz2 rfl (by decide) _ (putsL ls).length _ rfl (HO3.out.alloc _) (.slice (some ⟨w3.heap.size, 0, none⟩) 4 4) 4 (strV (tailL n)) rfl (lit_sliceP 1 (heap_alloc_new w3 _) TV.out.symm (by rw [TV.out]; rfl) (by omega)) (by rw [TV.out]; rfl) (strV_cell _) HN1.out HN2.out (by have := B3.out.size; simp; omega) ?_
            intro v' w5 hown5 hgrow _
            rw [← SV.out] at hown5
            have HO5 := Lib.hid hown5
            have B5 := Lib.hid (below_trans' B1.out ((B3.out.alloc B3.out.size _).grown hgrow (by have := B3.out.size; simp; omega) (fun j hj => (HO3.out.lt j hj).1)))
            have RN5 := Lib.hid (RN.out _ _ B5.out (SliceIs.ownedK hown5))
            obtain ⟨wa, wc, rfl⟩ := owns_slice hown5
            clear hown5 hgrow RN
            go_wp2_with fail
            refine RN5.out.mono ?_
            rintro e w6 ⟨r, rfl, hr, b6⟩
            have B6 := Lib.hid (below_trans' B5.out b6)
            have HR6 := Lib.hid hr
            obtain ⟨s0', n0', c0', e1, e2, e3, e4, g1⟩ := (SliceIs.ownedK hr).get
            subst e1
            obtain ⟨f0, f1, f2, f3⟩ := four_at R0 txDone Z Z P
            rw [HRL.out] at f0 f1 f2 f3
            obtain ⟨ad, rfl, d0⟩ := g1 _ _ f0
            obtain ⟨a', e', d1⟩ := g1 _ _ f1
            cases e'
            obtain ⟨a', e', d2⟩ := g1 _ _ f2
            cases e'
            obtain ⟨a', e', d3⟩ := g1 _ _ f3
            cases e'
            obtain rfl : n0' = (putsL ls).length + 4 := by
              obtain ⟨qa, qc, hq⟩ := owns_slice hr
              cases hq; rfl
            rw [bsDone] at d0
            rw [addr_pos ad (by omega)] at d1 d2 d3
            have hK30 : (putsL ls).length ≤ 30 := by omega
            have CT := Lib.hid (fun w' => rcut_any 32 32 (by decide) P w' (by omega))
            generalize (putsL ls).length = K at *
            have z0 : (0 : Int) ≤ (K : Int) := by omega
            have z1 : IntKind.i64.wrap ((K : Int) + 1) = (K : Int) + 1 := IntWalk.i64_in _ (by omega)
            have z2 : IntKind.i64.wrap ((K : Int) + 2) = (K : Int) + 2 := IntWalk.i64_in _ (by omega)
            have z3 : IntKind.i64.wrap ((K : Int) + 3) = (K : Int) + 3 := IntWalk.i64_in _ (by omega)
            have z4 : ((K : Int) + 1).toNat = K + 1 := by omega
            have z5 : ((K : Int) + 2).toNat = K + 2 := by omega
            have z6 : ((K : Int) + 3).toNat = K + 3 := by omega
            have i0' : (K : Int) < (K : Int) + 4 := by omega
            have i1' : (K : Int) + 1 < (K : Int) + 4 := by omega
            have i2' : (K : Int) + 2 < (K : Int) + 4 := by omega
            have i3' : (K : Int) + 3 < (K : Int) + 4 := by omega
            have j1 : (0 : Int) ≤ (K : Int) + 1 := by omega
            have j2 : (0 : Int) ≤ (K : Int) + 2 := by omega
            have j3 : (0 : Int) ≤ (K : Int) + 3 := by omega
            have D3 := Lib.hid (fun (w' : World) (b : Below w6.heap.size w6 w') => (b.cell (World.block_lt_of_cell? w6 _ d3)).trans d3)
            clear b6 RN5 hr g1 f0 f1 f2 f3 d3 e3 e4 e2 HN1 HN2 SV TV HR6 HO5 HO3 hA1 hA2 hc1 hc2 l1 hdl HRL HSZ B5 B3 hpl hltI hj HALL HO BW PZ HV1 HV HE cc0 cc1 hl30 k0 k1 hn9
            go_wp2_with fail
            have w0 : ∀ W : World, (binOp .neq 9 (.string ⟨#[100, 111, 110, 101]⟩) (.string ⟨#[100, 111, 110, 101]⟩)).run Tryz.prog W = .ok (.bool false) W := by intro W; kernel_rfl
            go_quiet (fail)
            have d3 := D3.out _ (below_drewN (Below.refl w6.heap.size w6) nq)
            have B7 := Lib.hid (below_drewN B6.out nq)
            generalize w6.drewN nq = W at *
            clear w0 d0 d1 d2 D3
            go_wp2_with fail
            refine (CT.out _).mono ?_
            rintro e w8 ⟨r8, rfl, hr8, b8⟩
            have B8 := Lib.hid (below_trans' B7.out b8)
            have HS8 := Lib.hid (SliceIs.ownedK hr8)
            obtain ⟨ra, rc, rfl⟩ := owns_slice hr8
            have hcn : (splC 32 P).length ≤ 2001 := by have := splC_len' 32 P; omega
            have HMM := Lib.hid (fun x (hx : x ∈ splC 32 P) => (splC_mem (c := 32) _ P (Nat.le_refl _) x hx).1)
            generalize splC 32 P = L at *
            clear hr8 b8 CT d3 i0' i1' i2' i3' j1 j2 j3 z0 z1 z2 z3 z4 z5 z6
            go_wp2_with fail
            go_loop [12] (fun i => ∃ q : Nat, i = .int .i64 q ∧ q ≤ L.length) (fun i => L.length - (intOf i).toNat)
            case atStart => exact ⟨0, rfl, by omega⟩
            case round =>
              obtain ⟨q, rfl, hq⟩ := hrel
              by_cases hlt : q < L.length
              · have hltI : (q : Int) < L.length := by omega
                obtain ⟨s0', n0', c0'', e1, _, _, _, g1⟩ := HS8.out.get
                cases e1
                obtain ⟨ad8, rfl, d0⟩ := g1 _ _ (strV_at L q hlt)
                have x1 : (0 : Int) ≤ q := by omega
                have x2 : (q : Int).toNat = q := by omega
                have KK := Lib.hid (show q + 1 ≤ L.length by omega)
                have hk := HK.out L[q] (List.getElem_mem _)
                have hm := HMM.out L[q] (List.getElem_mem _)
                generalize (L[q]'hlt) = a at d0 hk hm
                clear g1
                by_cases ha : a = txNone
                · have k1 := tl_eq a [110, 111, 116, 104, 105, 110, 103] ha
                  clear hk ha
                  go_wp2_with fail
                  go_round
                  case rel => exact ⟨q + 1, by go_num, KK.out⟩
                  case measure => have := KK.out; simp [intOf]; omega
                · have k1 := tl_ne a [110, 111, 116, 104, 105, 110, 103] ha
                  obtain ⟨h6, h5⟩ := hk.resolve_left ha
                  have hI6 : ¬ (a.length : Int) < 6 := by omega
                  have hI5 : (5 : Int) ≤ a.length := by omega
                  have EX : (bs a).extract 0 5 = bs (a.take 5) := by rw [bs_take, bs_list]
                  have k2 := tl_eq (a.take 5) [107, 101, 101, 112, 58] h5
                  clear hk ha h5
                  go_wp2_with fail
                  go_round
                  case rel => exact ⟨q + 1, by go_num, KK.out⟩
                  case measure => have := KK.out; simp [intOf]; omega
              · have hltI : ¬ (q : Int) < L.length := by omega
                go_wp2_with fail
                go_ret
                exact ⟨rfl, B8.out⟩
end Go.Proofs.YtppkeophochgiaaGreatDoor

namespace Go.Proofs.YtppkeophochgiaaGreatDoor.scriptSends
open Go.ChangeShapes Go.WideShapes Go.ChangeAt Go.RowKit
open Go.ChangeMaps (open_string shut_string)
set_option linter.unusedVariables false

theorem own : ownKnob Tryz.prog.godebug = none := by kernel_rfl
theorem laidOut : laidOutB Tryz.prog = true := by kernel_rfl
theorem known_codes : known [1, 2, 3, 4, 5, 6, 8, 9, 10, 11, 12, 14, 13] = true := by kernel_rfl
def keepT (x : String × DataW Unit) : Bool := x.1 == "internal/strconv.uint64pow10"
theorem cutT : Rows.scriptSendsRow.laid.filter keepT = [("internal/strconv.uint64pow10", Lib.tabData .u64 Lib.pow10Tab)] := by rfl
def keep (x : String × DataW Unit) : Bool := !["math/bits.deBruijn32tab", "math/bits.deBruijn64tab", "internal/strconv.uint64pow10", "unicode/utf8.acceptRanges", "unicode/utf8.first"].contains x.1
theorem cut : Rows.scriptSendsRow.laid.filter keep = ("errors.errorType", hdat) :: [1, 2, 3, 4, 5, 6, 8, 9, 10, 11, 12, 14, 13].map entry := by rfl
theorem door_all {os : Os} (args : Array Value) (hf : (World.doorLaid Tryz.prog 4000 os).layFits Tryz.prog (Rows.scriptSendsRow.laid.filter fun x => x.2.handleName?.isNone) [] = true)
    (hi : (World.doorLaid Tryz.prog 4000 os).layIfaces Tryz.prog (Rows.scriptSendsRow.laid.filter fun x => x.2.handleName?.isNone) ((World.doorLaid Tryz.prog 4000 os).layVars Tryz.prog (Rows.scriptSendsRow.laid.filter fun x => x.2.handleName?.isNone)) = true) :
    laidMet Tryz.prog (Rows.scriptSendsRow.laid.filter fun x => x.2.handleName?.isNone) (((World.doorLaid Tryz.prog 4000 os).layVars Tryz.prog (Rows.scriptSendsRow.laid.filter fun x => x.2.handleName?.isNone)).forCall (fun _ _ => 0) ⟨#[], args, []⟩).memory := by
  revert hf hi
  generalize (Rows.scriptSendsRow.laid.filter fun x => x.2.handleName?.isNone) = laid
  intro hf hi
  have e1 : (laid.filter fun x => (laid.map (·.1)).contains x.1) = laid := List.filter_eq_self.2 fun x hx => List.contains_iff_mem.2 (List.mem_map.2 ⟨x, hx, rfl⟩)
  have e2 : (laid.filter fun x => !(laid.map (·.1)).contains x.1) = [] := List.filter_eq_nil_iff.2 fun x hx => by rw [List.contains_iff_mem.2 (List.mem_map.2 ⟨x, hx, rfl⟩)]; simp
  have h : laidMet Tryz.prog laid ((World.doorLaid Tryz.prog 4000 os).layVars Tryz.prog laid) := laidMet_layVars (w0 := (World.doorLaid Tryz.prog 4000 os)) (laid.map (·.1)) [] (by rw [e1]) (by rw [e1]; exact hf) (by rw [e1]; exact hi) (by rw [e2]; exact LaidIn.none)
  exact h.of_heap (by simp [World.memory, World.forCall, Input.heap])

set_option maxRecDepth 100000 in
theorem lifted (os : Os) (started : os.Started) (H : Type) (enc : TypeId × Value → H) :
    ReturnsInHanded {} Tryz.checked os 5 .any (fun w args => (Rows.scriptSendsSpec.pre enc Tryz.prog Tryz.f5 [] false w args ∧ laidMetH Tryz.prog Rows.scriptSendsRow.laid w) ∧ sizedMet enc Tryz.prog Tryz.f5 (OpenSpec.ofChange Rows.scriptSendsSpec) false w args)
      (Rows.scriptSendsSpec.post enc Tryz.prog Tryz.f5 false true false false) := by
  refine returnsInHanded_of_change_andS (C := Tryz.checked) (X := fun w _ => laidMetH Tryz.prog Rows.scriptSendsRow.laid w) (fun _ _ _ hh h => h.of_heap hh) own started (by kernel_rfl) Tryz.func5
    (ChangeSpec.witness_shaped (enc := enc) (C := Tryz.checked) (os := os) (X := fun w _ => laidMetH Tryz.prog Rows.scriptSendsRow.laid w) false ((World.doorLaid Tryz.prog 4000 os).layVars Tryz.prog (Rows.scriptSendsRow.laid.filter fun x => x.2.handleName?.isNone)) #[.slice none 0 0, .int .i64 0] 8 (World.layVars_os _ _ _)
      (World.shaped_of_ZipB (by kernel_rfl) (by kernel_rfl)) (by kernel_rfl) (by kernel_rfl) (by kernel_rfl)
      (laidMetH_of_parts3 (fuel := 8) (door_all _ (by kernel_rfl) (by kernel_rfl)) (by kernel_rfl) (by kernel_rfl))) ?_
  intro W base args ds gs before hval0 hW _ _ hL hsh _
  have hval : ∀ (j : Nat) t v, Tryz.f5.params[j]? = some t → args[j]? = some v → Value.okWide Tryz.prog W .any base t v := hval0
  have hW' := hW
  obtain ⟨p, q, hA0, hV, rfl, hfz, hnd⟩ := hW
  have hA : DataW.TrodAll enc Tryz.prog W 0 (fun _ => true) true Tryz.f5.params.toList args.toList ds p := hA0
  rw [Tryz.params5] at hA hval
  obtain ⟨v0, vs0, d0, ds0, p0, q0, hargs, rfl, rfl, h0, r0⟩ := trodAll_cons hA
  obtain ⟨v1, vs1, d1, ds1, p1, q1, rfl, rfl, rfl, h1, r1⟩ := trodAll_cons r0
  obtain ⟨rfl, rfl, rfl⟩ := trodAll_nil r1
  obtain rfl : args = #[v0, v1] := by cases args; simp_all
  obtain ⟨rfl, rfl⟩ := trodVars_none hV
  obtain ⟨s0, n0, c0, rfl⟩ := okWide_slice Tryz.underlying22 (hval 0 22 v0 rfl rfl)
  have k0 := h0
  have lt0 : ∀ x ∈ p0, x.block < W.heap.size := by obtain ⟨m, hm⟩ := k0; exact DataW.trod_lt m _ _ _ hm
  obtain ⟨a0, w0⟩ := of_strings Tryz.underlying22 Tryz.underlying9 (by kernel_rfl) h0
  obtain ⟨a1, rfl, rfl, rfl, w1⟩ := open_int Tryz.underlying3 (hval 1 3 v1 rfl rfl) h1
  clear hA0 hval0
  have hT : laidMet Tryz.prog [("internal/strconv.uint64pow10", Lib.tabData .u64 Lib.pow10Tab)] W := by
    have h := hL.filter keepT
    rw [cutT, MakeChecks.laidMetH_plain _ _ _ (by kernel_rfl)] at h
    exact h
  have hl : laidMet Tryz.prog ([1, 2, 3, 4, 5, 6, 8, 9, 10, 11, 12, 14, 13].map entry) W := (laid_errs (l := [1, 2, 3, 4, 5, 6, 8, 9, 10, 11, 12, 14, 13]) rfl (cut ▸ hL.filter keep)).1
  obtain ⟨E, hE, hD, hTX⟩ := errs_of_laidT hl known_codes (by decide)
  refine (scriptSends_walk E s0 n0 c0 a0 a1 W w0 w1 (laid_errs (l := [1, 2, 3, 4, 5, 6, 8, 9, 10, 11, 12, 14, 13]) rfl (cut ▸ hL.filter keep)).2 (tab_of hT) (max_of hsh) hE hD hTX).mono fun e W' ⟨he, hg⟩ => ?_
  subst he
  exact ⟨_, rfl, _, _, _, [], _, [], hW', (trodAll_cons_mk (shut_bool Tryz.underlying4 _) trodAll_mk0), (trodAll_cons_mk (Below.trod laidOut (by kernel_rfl) (of_decide_eq_true (by kernel_rfl)) k0 hg lt0) (trodAll_cons_mk (shut_int Tryz.underlying3 w1) trodAll_mk0)), rfl, hg.frame _, fun h => by cases h⟩

theorem and_tt {a b : Bool} (h : a = true) (k : b = true) : (a && b) = true := by rw [h, k]; rfl
set_option maxHeartbeats 12800000 in
theorem joined : joinedFacts Tryz.pinned.checked.prog 5 Tryz.f5 Rows.scriptSendsSpec Rows.scriptSendsRow = true := by
  unfold joinedFacts
  repeat' (with_reducible refine and_tt ?_ ?_)
  all_goals (as_aux_lemma => kernel_rfl)
theorem said : Rows.ScriptSendsSaid :=
  OpenClaim.holds_of_wide 5 Tryz.f5 rfl rfl rfl rfl rfl rfl rfl ⟨rfl, rfl, rfl, rfl, rfl⟩ rfl rfl rfl rfl rfl (by kernel_rfl) Tryz.func5 joined
    (of_decide_eq_true (by kernel_rfl)) (by unfold Func.isWrapper; first | (rw [if_pos (by decide +kernel)]; kernel_rfl) | (rw [if_neg (by decide +kernel)]; exact ⟨rfl, rfl⟩))
    (fun os started H enc _ => lifted os started H enc)

theorem plainly (f : FuncId) (fn : Func) (hf : Tryz.pinned.checked.prog.funcNamed "packhorse/packhorselaw4.ScriptSends" = some f) (hfn : Tryz.pinned.checked.prog.funcs[f]? = some fn) :
    true = Tryz.pinned.checked.prog.looks [] ∧ ∀ (j : Nat) t, fn.params[j]? = some t → Tryz.pinned.checked.prog.wantsStandIn t = false := by
  obtain rfl : f = 5 := Option.some.inj ((show Tryz.prog.funcNamed "packhorse/packhorselaw4.ScriptSends" = some 5 by kernel_rfl).symm.trans hf) |>.symm
  obtain rfl : fn = Tryz.f5 := (Option.some.inj (Tryz.func5.symm.trans hfn)).symm
  refine ⟨by kernel_rfl, fun j t ht => ?_⟩
  have hall : (Tryz.f5.params.toList.all fun u => !Tryz.prog.wantsStandIn u) = true := by kernel_rfl
  exact (show Tryz.prog.wantsStandIn t = false by simpa using List.all_eq_true.1 hall t (by simpa using Array.mem_of_getElem? ht))

/-- THE STATEMENT -/
theorem proved : Rows.ScriptSendsCardSaid :=
  Claim7.holds_tied_plain_at .later [] _ _ _ _ said (fun _ h => by cases h) (by kernel_rfl) (fun _ h => by cases h) scriptSends_row_tie rfl ⟨rfl, rfl⟩ (by kernel_rfl) rfl plainly (by kernel_rfl)
#print axioms proved
end Go.Proofs.YtppkeophochgiaaGreatDoor.scriptSends
