/- Texts of one proof, one behind the other: ScrSends, ScrHello, ScrHel, ScrAgain. -/
import Derived.Test.YtppkeophochgiaaGreatDoorB34
import Derived.Test.YtppkeophochgiaaGreatDoorB45
import Derived.Test.YtppkeophochgiaaGreatDoorB50
import Derived.Test.YtppkeophochgiaaGreatDoorB29
import Derived.Test.YtppkeophochgiaaGreatDoorB39
import Derived.Test.YtppkeophochgiaaGreatDoorB12
/- The plain law of ScriptSends: behind a sending the plan keeps all, and the lists are the same. No program is in sight. -/
namespace Go.Proofs.YtppkeophochgiaaGreatDoor
open Go.RowKit
set_option linter.unusedVariables false
end Go.Proofs.YtppkeophochgiaaGreatDoor
/- The closed script: what the plain model answers. No program is in sight. -/
namespace Go.Proofs.YtppkeophochgiaaGreatDoor
open Go.RowKit
set_option linter.unusedVariables false
def heL1 : List UInt8 := "put from a 123456789".toUTF8.data.toList
def heL2 : List UInt8 := "plan".toUTF8.data.toList
def heL3 : List UInt8 := "send 6 0".toUTF8.data.toList
def heL4 : List UInt8 := "list to".toUTF8.data.toList
def heL5 : List UInt8 := "open t".toUTF8.data.toList
def heF : PF := ⟨[97], [49, 50, 51, 52, 53, 54, 55, 56, 57]⟩
def heS (t : List PF) : SP := ⟨[heF], t, [], ⟨[], false, -1⟩⟩
theorem he1 : SP.zero.play heL1 = (heS [], txOk, 0) := by kernel_rfl
theorem he2 : (heS []).play heL2 = (heS [], "send:a".toUTF8.data.toList, 0) := by kernel_rfl
theorem he3 : (heS []).play heL3 = (heS (SP.sent [heF] [] [6, 0]), txDone, 0) := by kernel_rfl
theorem he5 (t : List PF) : ((heS t).play heL5).2 = ([49], 0) := by kernel_rfl
theorem he4 (t : List PF) : (heS t).play heL4 = (heS t, joinL ((t.map PF.line).map SP.lineT), 0) := by
  rw [List.map_map]
  kernel_rfl
theorem heline : joinL ([heF.line].map SP.lineT) = "a:9:3421780262".toUTF8.data.toList := by kernel_rfl
theorem heSmall : Small [heF] := by
  refine ⟨(flFault_wf _).1 (by kernel_rfl), fun f hf => ?_⟩
  simp at hf
  subst hf
  decide
theorem small_nil : Small [] := by
  exact ⟨(flFault_wf _).1 (by kernel_rfl), fun f hf => by cases hf⟩
/-- what the closed script answers -/
theorem hello_run : SP.zero.run [heL1, heL2, heL3, heL4, heL5] = [txOk, "send:a".toUTF8.data.toList, txDone, "a:9:3421780262".toUTF8.data.toList, [49]] := by
  have L := (sent_law heSmall small_nil [6, 0]).2
  have h4 := he4 (SP.sent [heF] [] [6, 0])
  rw [L, show [heF].map PF.line = [heF.line] from rfl, heline] at h4
  simp only [SP.run, he1, he2, he3, h4, he5, SP.told, if_true]
end Go.Proofs.YtppkeophochgiaaGreatDoor
/- The closed script, and a script's length. -/
namespace Go.Proofs.YtppkeophochgiaaGreatDoor
open Go.RowKit
set_option linter.unusedVariables false
/-- what a statement over scripts is given -/
theorem renv_of {E : Nat → Addr} {w : World} {l : List Nat} (hl : ∀ c, 1 ≤ c → c ≤ 14 → c ≠ 7 → c ∈ l) (hh : Hand w) (ht : TabW w) (hm : MaxW w) (h1 : ∀ c ∈ l, Has E w c ∧ Sent w (E c)) (hx : ∀ c ∈ l, w.cell? (E c) = some (.string (bs (textOf c)))) : REnv E w := by
  have H : ∀ c, 1 ≤ c → c ≤ 14 → c ≠ 7 → Has E w c := fun c a b d => (h1 c (hl c a b d)).1
  refine ⟨⟨⟨H 1 (by omega) (by omega) (by omega), H 2 (by omega) (by omega) (by omega), H 3 (by omega) (by omega) (by omega), H 4 (by omega) (by omega) (by omega), H 5 (by omega) (by omega) (by omega), H 6 (by omega) (by omega) (by omega), H 8 (by omega) (by omega) (by omega), H 9 (by omega) (by omega) (by omega), H 10 (by omega) (by omega) (by omega), H 11 (by omega) (by omega) (by omega)⟩, ⟨ht, hm, H 13 (by omega) (by omega) (by omega), H 14 (by omega) (by omega) (by omega)⟩, H 12 (by omega) (by omega) (by omega)⟩, hh, fun c a b d => hx c (hl c a (by omega) d)⟩
attribute [local irreducible] SP.run
set_option maxRecDepth 100000 in
set_option maxHeartbeats 6400000 in
theorem hello_ok (E : Nat → Addr) (w : World) (hE : REnv E w) :
    Calls Tryz.prog 6 #[] w fun e w' => e = .returned (.bool true) ∧ Below w.heap.size w w' := by
  have RN := Lib.hid (fun (w' : World) (v : Value) (b : Below w.heap.size w w') (hv : SliceIs w' v 1 (strV [heL1, heL2, heL3, heL4, heL5])) => srun_any (E := E) [heL1, heL2, heL3, heL4, heL5] v w' hv (hE.below b) (by simp) (by decide))
  have HR := hello_run
  have ST := Lib.hid (fun (v1 v2 : Value) (w : World) h1 h2 => sameTexts_is v1 v2 (SP.zero.run [heL1, heL2, heL3, heL4, heL5]) [txOk, "send:a".toUTF8.data.toList, txDone, "a:9:3421780262".toUTF8.data.toList, [49]] w h1 h2)
  have EQ : (SP.zero.run [heL1, heL2, heL3, heL4, heL5] == [txOk, "send:a".toUTF8.data.toList, txDone, "a:9:3421780262".toUTF8.data.toList, [49]]) = true := by rw [HR]; decide
  rw [EQ] at ST
  clear HR EQ hE
  go_enter Tryz.func6, Tryz.ntmps6
  have L1 : strV [heL1, heL2, heL3, heL4, heL5] = [.string ⟨#[112, 117, 116, 32, 102, 114, 111, 109, 32, 97, 32, 49, 50, 51, 52, 53, 54, 55, 56, 57]⟩, .string ⟨#[112, 108, 97, 110]⟩, .string ⟨#[115, 101, 110, 100, 32, 54, 32, 48]⟩, .string ⟨#[108, 105, 115, 116, 32, 116, 111]⟩, .string ⟨#[111, 112, 101, 110, 32, 116]⟩] := by kernel_rfl
  have L2 : ([txOk, "send:a".toUTF8.data.toList, txDone, "a:9:3421780262".toUTF8.data.toList, [49]].map fun x => Value.string (bs x)) = [.string ⟨#[111, 107]⟩, .string ⟨#[115, 101, 110, 100, 58, 97]⟩, .string ⟨#[100, 111, 110, 101]⟩, .string ⟨#[97, 58, 57, 58, 51, 52, 50, 49, 55, 56, 48, 50, 54, 50]⟩, .string ⟨#[49]⟩] := by kernel_rfl
  have HL1 := Lib.hid L1.symm
  have HL2 := Lib.hid L2.symm
  clear L1 L2
  go_wp2_with fail
  refine (RN.out _ _ (wb_alloc w _) (lit_slice 1 (heap_alloc_new w _) HL1.out (by unfold strV; rfl) (by omega))).mono ?_
  rintro e w1 ⟨r, rfl, hr, b1⟩
  have HR := Lib.hid hr
  have B1 := Lib.hid (below_trans' (wb_alloc w _) b1)
  obtain ⟨ra, rc, rfl⟩ := owns_slice hr
  clear hr b1 RN
  go_wp2_with fail
  refine (ST.out _ _ _ (by have := (SliceIs.ownedK HR.out).below (wb_alloc w1 (.cells #[.string ⟨#[111, 107]⟩, .string ⟨#[115, 101, 110, 100, 58, 97]⟩, .string ⟨#[100, 111, 110, 101]⟩, .string ⟨#[97, 58, 57, 58, 51, 52, 50, 49, 55, 56, 48, 50, 54, 50]⟩, .string ⟨#[49]⟩] 9)); unfold strV at this; exact this) (lit_slice 1 (heap_alloc_new w1 _) HL2.out (by rfl) (by omega))).mono ?_
  rintro e w2 ⟨rfl, dr⟩
  have B2 := Lib.hid (below_trans' (below_trans' B1.out (wb_alloc w1 _)) (dr.below _))
  clear dr
  go_wp2_with fail
  go_ret
  exact ⟨rfl, B2.out⟩
def LongIs (l : List (List UInt8)) (most : Int) (w : World) (e : Ending) (w' : World) : Prop := ∃ b : Bool, e = .returned (.bool b) ∧ (b = false → (l.length : Int) ≤ most ∧ ∀ x ∈ l, x.length ≤ 120) ∧ w = w'
set_option maxRecDepth 100000 in
set_option maxHeartbeats 6400000 in
theorem long_any (l : List (List UInt8)) (v : Value) (most : Nat) (w : World) (hv : SliceIs w v 1 (strV l)) (hm : most ≤ 1000) (hbig : ∀ x ∈ l, x.length ≤ maxLen) :
    Calls Tryz.prog 7 #[v, .int .i64 most] w (LongIs l most w) := by
  obtain ⟨s0, m0, c0, rfl, hm0, hm1, hm2, g1⟩ := hv.get
  have hm0 : m0 = l.length := by unfold strV at hm0; simpa using hm0.symm
  subst hm0
  unfold maxLen at hm2
  have HV := Lib.hid hv
  have HB := Lib.hid hbig
  clear hv g1 hbig
  by_cases h0 : most < l.length
  · have hI : (most : Int) < l.length := by omega
    go_enter Tryz.func7, Tryz.ntmps7
    go_wp2_with fail
    go_ret
    exact ⟨true, rfl, fun h => by (cases h), rfl⟩
  · have hI : ¬ (most : Int) < l.length := by omega
    go_enter Tryz.func7, Tryz.ntmps7
    go_wp2_with fail
    go_loop [5, 6] (fun c i => ∃ (k n : Nat), i = .int .i64 k ∧ c = .int .i64 n ∧ n ≤ k ∧ k ≤ l.length ∧ ∀ x ∈ l.take k, x.length ≤ 120) (fun _ i => l.length - (intOf i).toNat)
    case atStart => exact ⟨0, 0, rfl, rfl, by omega, by omega, by simp⟩
    case round =>
      obtain ⟨k, n, rfl, rfl, hn, hk, hall⟩ := hrel
      have HA := Lib.hid hall
      clear hall
      by_cases hlt : k < l.length
      · have hltI : (k : Int) < l.length := by omega
        obtain ⟨s0', n0', c0', e1, _, _, _, g1⟩ := HV.out.get
        cases e1
        obtain ⟨ad, rfl, d0⟩ := g1 _ _ (strV_at l k hlt)
        have x1 : (0 : Int) ≤ k := by omega
        have x2 : (k : Int).toNat = k := by omega
        have KK := Lib.hid (show k + 1 ≤ l.length by omega)
        have HXB := HB.out l[k] (List.getElem_mem _)
        unfold maxLen at HXB
        have HN := Lib.hid (fun (h : (l[k]'hlt).length ≤ 120) => show ∀ x ∈ l.take (k + 1), x.length ≤ 120 from fun x hx => by
          rw [List.take_succ_eq_append_getElem hlt] at hx
          rcases List.mem_append.1 hx with hx | hx
          · exact HA.out x hx
          · rw [List.mem_singleton.1 hx]; exact h)
        generalize (l[k]'hlt) = y at *
        clear g1
        by_cases h1 : 120 < y.length
        · have hI1 : (120 : Int) < y.length := by omega
          go_wp2_with fail
          go_ret
          exact ⟨true, rfl, fun h => by (cases h), rfl⟩
        · have hI1 : ¬ (120 : Int) < y.length := by omega
          by_cases h2 : 4 ≤ y.length
          · have hI2 : (4 : Int) ≤ y.length := by omega
            have EX : (bs y).extract 0 4 = bs (y.take 4) := by rw [bs_take, bs_list]
            by_cases h3 : y.take 4 = [115, 101, 110, 100]
            · have k1 := tl_eq (y.take 4) [115, 101, 110, 100] h3
              clear h3
              go_wp2_with fail
              go_round
              case rel => exact ⟨k + 1, n + 1, by go_num, by go_num, by omega, KK.out, HN.out (by omega)⟩
              case measure => have := KK.out; simp [intOf]; omega
            · have k1 := tl_ne (y.take 4) [115, 101, 110, 100] h3
              clear h3
              go_wp2_with fail
              go_round
              case rel => exact ⟨k + 1, n, by go_num, rfl, by omega, KK.out, HN.out (by omega)⟩
              case measure => have := KK.out; simp [intOf]; omega
          · have hI2 : ¬ (4 : Int) ≤ y.length := by omega
            go_wp2_with fail
            go_round
            case rel => exact ⟨k + 1, n, by go_num, rfl, by omega, KK.out, HN.out (by omega)⟩
            case measure => have := KK.out; simp [intOf]; omega
      · have hltI : ¬ (k : Int) < l.length := by omega
        obtain rfl : k = l.length := by omega
        have hall := HA.out
        rw [List.take_length] at hall
        go_wp2_with fail
        go_ret
        exact ⟨_, rfl, fun _ => ⟨by omega, hall⟩, rfl⟩
end Go.Proofs.YtppkeophochgiaaGreatDoor
/- ScriptAgain: the same lines make the same answers; those of a beginning are the beginning of those of all. -/
namespace Go.Proofs.YtppkeophochgiaaGreatDoor
open Go.RowKit
set_option linter.unusedVariables false
theorem stake1 {P : Program} {w : World} {T : TypeId} {s : Option Addr} {n c : Nat} {xs : List Value} (hu : P.underlying T = some (.slice (P.elem T))) (hz : ∀ w' : World, (sizeOf (P.elem T)).run P w' = .ok 1 w') (h : SliceIs w (.slice s n c) 1 xs) (k : Nat) (hk : k ≤ n) :
    (∀ w' : World, (Instr.slice T (.slice s n c) none (some (.int .i64 k)) none).run P w' = .ok (.slice s k c) w') ∧ SliceIs w (.slice s k c) 1 (xs.take k) := by
  obtain ⟨s', n', c', e, hn, h1, h2, hg⟩ := h.get
  cases e
  refine ⟨fun w' => ?_, ?_⟩
  · rw [run_slice_h w' T s n c hu .i64 k (by omega) (by omega), hz]
    simp only [Result.andThen, sliced, Int.toNat_natCast, Nat.zero_mul, Nat.sub_zero]
    congr 2
    rcases s with _ | a
    · simp
    · split
      · rfl
      · rw [Option.map_some, add_zero'']
  · rcases s with _ | a
    · rcases h with ⟨h, rfl⟩ | ⟨a, _, _, h, _⟩
      · cases h
        obtain rfl : k = 0 := by omega
        exact .inl ⟨rfl, rfl⟩
      · cases h
    · refine .inr ⟨a, k, c, rfl, by omega, h2, by rw [List.length_take]; omega, fun i u hi => ?_⟩
      rw [List.getElem?_take] at hi
      split at hi
      · obtain ⟨a', e, h3⟩ := hg i u hi
        cases e
        exact h3
      · cases hi
theorem strV_cell (l : List (List UInt8)) : ∀ u ∈ strV l, u.oneCell' = true := by
  unfold strV
  intro u hu
  obtain ⟨x, _, rfl⟩ := List.mem_map.1 hu
  rfl
theorem strV_len (l : List (List UInt8)) : (strV l).length = l.length := by unfold strV; exact List.length_map ..
theorem strV_take (l : List (List UInt8)) (k : Nat) : (strV l).take k = strV (l.take k) := by unfold strV; exact (List.map_take ..).symm
theorem of_bytes (a : List ByteArray) : a.map Value.string = strV (a.map fun s => s.data.toList) := by
  unfold strV
  rw [List.map_map]
  refine List.map_congr_left fun s _ => ?_
  show Value.string s = Value.string (bs s.data.toList)
  rw [bs_of]
attribute [local irreducible] SP.run
set_option maxRecDepth 100000 in
set_option maxHeartbeats 51200000 in
theorem scriptAgain_walk (E : Nat → Addr) (s0 : Option Addr) (n0 c0 : Nat) (a0 : List ByteArray) (a1 : Int) (w : World) (hl : SliceIs w (.slice s0 n0 c0) 1 (a0.map .string) ∧ ∀ s ∈ a0, s.size ≤ maxLen) (hi : (Lit.int .i64 a1).wf = true) (hh : Hand w) (ht : TabW w) (hm : MaxW w) (h1 : ∀ c ∈ [1, 2, 3, 4, 5, 6, 7, 8, 9, 10, 11, 12, 14, 13], Has E w c ∧ Sent w (E c)) (h2 : ∀ c ∈ [1, 2, 3, 4, 5, 6, 7, 8, 9, 10, 11, 12, 14, 13], ∀ c' ∈ [1, 2, 3, 4, 5, 6, 7, 8, 9, 10, 11, 12, 14, 13], c ≠ c' → E c ≠ E c') (hx : ∀ c ∈ [1, 2, 3, 4, 5, 6, 7, 8, 9, 10, 11, 12, 14, 13], w.cell? (E c) = some (.string (bs (textOf c)))) :
    Calls Tryz.prog 4 #[.slice s0 n0 c0, .int .i64 a1] w fun e w' => e = .returned (.bool true) ∧ Below w.heap.size w w' := by
  obtain ⟨hv, hbig⟩ := hl
  rw [of_bytes] at hv
  have hB : ∀ x ∈ a0.map (fun s => s.data.toList), x.length ≤ maxLen := fun x hx => by
    obtain ⟨s, hs, rfl⟩ := List.mem_map.1 hx
    exact hbig s hs
  generalize a0.map (fun s => s.data.toList) = ls at *
  have HE := Lib.hid (renv_of (by intro c a b d; simp; omega) hh ht hm h1 hx)
  have HER := Lib.hid (Errs.of hh (fun c hc => h1 c (by simp at hc ⊢; omega)) (fun c hc c' hc' hne => h2 c (by simp at hc ⊢; omega) c' (by simp at hc' ⊢; omega) hne))
  have HV := Lib.hid hv
  have HEL := Lib.hid (hello_ok E w HE.out)
  have HLG := Lib.hid (fun (w' : World) (b : Below w.heap.size w w') => long_any ls _ 82 w' (hv.below b) (by omega) hB)
  have hlen : n0 = ls.length ∧ n0 ≤ c0 ∧ c0 ≤ maxLen := by
    obtain ⟨s', n', c', e, e2, e3, e4, _⟩ := hv.get
    cases e
    rw [strV_len] at e2; exact ⟨by omega, e3, e4⟩
  obtain ⟨rfl, cc0, cc1⟩ := hlen
  unfold maxLen at cc1
  obtain ⟨i0, hi0, hz0, hz1, hz2⟩ := info_parts infoStr
  clear hv hbig hi hh ht hm h1 h2 hx hB
  go_enter Tryz.func4, Tryz.ntmps4
  go_wp2_with fail
  refine HEL.out.mono ?_
  rintro e w1 ⟨rfl, b1⟩
  have B1 := Lib.hid b1
  have HLG1 := Lib.hid (HLG.out _ b1)
  clear b1 HEL HLG
  go_wp2_with fail
  refine HLG1.out.mono ?_
  rintro e w2 ⟨b, rfl, hb, rfl⟩
  cases b with
  | true =>
    clear hb HLG1
    go_wp2_with fail
    go_ret
    exact ⟨rfl, B1.out⟩
  | false =>
    obtain ⟨hl82, hall⟩ := hb rfl
    have HALL := Lib.hid hall
    clear hb HLG1 hall
    by_cases k0 : a1 < 0
    · go_wp2_with fail
      go_ret
      exact ⟨rfl, B1.out⟩
    · by_cases k1 : (ls.length : Int) < a1
      · go_wp2_with fail
        go_ret
        exact ⟨rfl, B1.out⟩
      · obtain ⟨p, rfl⟩ : ∃ p : Nat, a1 = p := ⟨a1.toNat, by omega⟩
        have hp : p ≤ ls.length := by omega
        have HV1 := Lib.hid (HV.out.below B1.out)
        have HN1 : Hid (0 + ls.length ≤ maxLen) := by show _ ≤ _; unfold maxLen; omega
        have HN2 : Hid ((0 + ls.length) * 16 ≤ 140737488355328) := by show _ ≤ _; omega
        have LEN := Lib.hid (show (strV ls).length = ls.length * 1 by rw [strV_len]; omega)
        go_wp2_with (at_builtin; refine Hid.out ?_)
        refine Lib.hid ?_
        refine wpList_append_is rfl _ _ 22 rfl w1.heap.size 9 i0 _ 1 16 Tryz.underlying22 hi0 hz0 hz1 hz2 rfl (by decide) _ 0 [] rfl (World.ownsRow_nil _ _ _ _) _ ls.length _ rfl HV1.out LEN.out (strV_cell ls) HN1.out HN2.out (Nat.le_refl _) ?_
        intro v' w3 hown hgrow _
        have HO := Lib.hid (own_first hown)
        have B3 := Lib.hid (below_trans' B1.out (below_first hgrow))
        clear hown hgrow
        obtain ⟨va, vc, rfl⟩ := owns_slice HO.out
        by_cases hlong : 80 < ls.length
        · have hI : (80 : Int) < ls.length := by omega
          have RL := Lib.hid (srun_long (E := E) (.slice va ls.length vc) ls.length va vc w3 rfl hlong ((HE.out.below B3.out).env.err.e2))
          go_wp2_with fail
          refine RL.out.mono ?_
          rintro e w4 ⟨rfl, b4⟩
          have B4 := Lib.hid (below_trans' B3.out b4)
          have CD := Lib.hid (coded_yes E (errv (E 2)) 2 w4 (FErr.bare E w4 (by decide)) (HER.out.below B4.out) (by omega))
          clear b4 RL
          go_wp2_with fail
          refine CD.out.mono ?_
          rintro e w5 ⟨rfl, b5⟩
          have B5 := Lib.hid (below_trans' B4.out b5)
          clear b5 CD
          go_wp2_with fail
          go_ret
          exact ⟨rfl, B5.out⟩
        · have hI : ¬ (80 : Int) < ls.length := by omega
          have RN := Lib.hid (srun_any (E := E) ls (.slice va ls.length vc) w3 (SliceIs.ownedK HO.out) (HE.out.below B3.out) (by omega) (fun x hx => by have := HALL.out x hx; omega))
          go_wp2_with fail
          refine RN.out.mono ?_
          rintro e w4 ⟨r, rfl, hr, b4⟩
          have B4 := Lib.hid (below_trans' B3.out b4)
          have HR := Lib.hid hr
          obtain ⟨ra, rc, rfl⟩ := owns_slice hr
          have HV4 := Lib.hid (HV.out.below B4.out)
          obtain ⟨SL1, SL2⟩ := stake1 (P := Tryz.prog) (T := 22) Tryz.underlying22 (by intro w'; kernel_rfl) HV4.out p hp
          rw [strV_take] at SL2
          have SL3 := Lib.hid SL2
          have LENp := Lib.hid (show (strV (ls.take p)).length = p * 1 by rw [strV_len, List.length_take]; omega)
          have HM1 : Hid (0 + p ≤ maxLen) := by show _ ≤ _; unfold maxLen; omega
          have HM2 : Hid ((0 + p) * 16 ≤ 140737488355328) := by show _ ≤ _; omega
          have y0 : (0 : Int) ≤ p := by omega
          clear b4 RN hr SL2
          go_wp2_with (at_builtin; refine Hid.out ?_)
          refine Lib.hid ?_
          refine wpList_append_is rfl _ _ 22 rfl w4.heap.size 9 i0 _ 1 16 Tryz.underlying22 hi0 hz0 hz1 hz2 rfl (by decide) _ 0 [] rfl (World.ownsRow_nil _ _ _ _) _ p _ rfl SL3.out LENp.out (strV_cell _) HM1.out HM2.out (Nat.le_refl _) ?_
          intro v'' w5 hown hgrow _
          have HO5 := Lib.hid (own_first hown)
          have b5 := below_first hgrow
          have B5 := Lib.hid (below_trans' B4.out b5)
          have HR5 := Lib.hid (owns_below HR.out b5)
          clear hown hgrow b5 SL1
          obtain ⟨ua, uc, rfl⟩ := owns_slice HO5.out
          have hpl : (ls.take p).length = p := by rw [List.length_take]; omega
          have RN2 := srun_any (E := E) (ls.take p) (.slice ua p uc) w5 (SliceIs.ownedK HO5.out) (HE.out.below B5.out) (by omega) (fun x hx => by have := HALL.out x (List.mem_of_mem_take hx); omega)
          rw [hpl] at RN2
          have RN3 := Lib.hid RN2
          clear RN2 hpl
          go_wp2_with fail
          refine RN3.out.mono ?_
          rintro e w6 ⟨r6, rfl, hr6, b6⟩
          have B6 := Lib.hid (below_trans' B5.out b6)
          have HR6 := Lib.hid (owns_below HR5.out b6)
          have HS6 := Lib.hid hr6
          obtain ⟨ta, tc, rfl⟩ := owns_slice hr6
          obtain ⟨TL1, TL2⟩ := stake1 (P := Tryz.prog) (T := 22) Tryz.underlying22 (by intro w'; kernel_rfl) (SliceIs.ownedK HR6.out) p hp
          rw [strV_take, SP.run_take _ _ _ hp] at TL2
          have ST := sameTexts_is _ _ (SP.zero.run (ls.take p)) (SP.zero.run (ls.take p)) w6 (by unfold strV at TL2; exact TL2) (by have := SliceIs.ownedK HS6.out; unfold strV at this; exact this)
          rw [show (SP.zero.run (ls.take p) == SP.zero.run (ls.take p)) = true from beq_self_eq_true _] at ST
          have ST1 := Lib.hid ST
          clear b6 RN3 hr6 TL2 ST
          go_wp2_with fail
          refine ST1.out.mono ?_
          rintro e w7 ⟨rfl, dr⟩
          have B7 := Lib.hid (below_trans' B6.out (dr.below _))
          clear dr ST1
          go_wp2_with fail
          go_ret
          exact ⟨rfl, B7.out⟩
end Go.Proofs.YtppkeophochgiaaGreatDoor
