/- Plain laws: the document's way to read a gate. No program is in sight. -/
import Derived.Test.YtkjcclbnbbbfaaaGreatDoorRefGate
import Derived.Test.YtkjcclbnbbbfaaaGreatDoorSplitPlain
import Derived.Test.YtkjcclbnbbbfaaaGreatDoorNmbPlain
import Derived.Test.YtkjcclbnbbbfaaaGreatDoorRefCut
import Derived.Test.YtkjcclbnbbbfaaaGreatDoorRefFlt
namespace Go.Proofs.YtkjcclbnbbbfaaaGreatDoor
open Go.RowKit
set_option linter.unusedVariables false

def glG (l : GM) (s : List UInt8) : GM :=
  match cutC 32 s with
  | none => l
  | some p => match nmL 10 p.2 with
    | none => l
    | some n => stG l p.1 n
theorem glG_set {l : GM} {s : List UInt8} {p : List UInt8 × List UInt8} {n : Nat} (h : cutC 32 s = some p) (h2 : nmL 10 p.2 = some n) : glG l s = stG l p.1 n := by unfold glG; rw [h]; simp only; rw [h2]
def rdD : Nat → List UInt8 → GM → List (List UInt8) → GM × Nat × Int
  | _, _, l, [] => (l, 0, -1)
  | i, _, l, [x] => if x = [] then (l, 0, -1) else (l, 1, (i : Int))
  | i, last, l, x :: y :: r => if glC l x last (i == 0) ≠ 0 then (l, glC l x last (i == 0), (i : Int)) else rdD (i + 1) (cutA 32 x) (glG l x) (y :: r)
theorem rdD_drop {L : List (List UInt8)} {j : Nat} (h : j + 1 < L.length) : ∃ y r, L.drop j = L[j] :: y :: r ∧ L.drop (j + 1) = y :: r := by
  refine ⟨L[j + 1], L.drop (j + 1 + 1), ?_, ?_⟩
  · rw [List.drop_eq_getElem_cons (by omega), List.drop_eq_getElem_cons h]
  · rw [List.drop_eq_getElem_cons h]
theorem rdD_step {L : List (List UInt8)} {j : Nat} {last : List UInt8} {l : GM} (h : j + 1 < L.length) (hg : glC l L[j] last (j == 0) = 0) : rdD j last l (L.drop j) = rdD (j + 1) (cutA 32 L[j]) (glG l L[j]) (L.drop (j + 1)) := by
  obtain ⟨y, r, e1, e2⟩ := rdD_drop h
  rw [e1, e2, rdD, if_neg (by simpa using hg)]
theorem rdD_bad {L : List (List UInt8)} {j c : Nat} {last : List UInt8} {l : GM} (h : j + 1 < L.length) (hg : glC l L[j] last (j == 0) = c) (hc : c ≠ 0) : rdD j last l (L.drop j) = (l, c, (j : Int)) := by
  obtain ⟨y, r, e1, e2⟩ := rdD_drop h
  rw [e1, rdD, if_pos (by rw [hg]; exact hc), hg]
theorem rdD_end {L : List (List UInt8)} {j : Nat} {last : List UInt8} {l : GM} (h : j + 1 = L.length) : rdD j last l (L.drop j) = if L[j] = [] then (l, 0, -1) else (l, 1, (j : Int)) := by
  rw [List.drop_eq_getElem_cons (by omega), List.drop_of_length_le (by omega), rdD]
theorem glC_perm {m l : GM} (h : m.Perm l) (hl : (l.map Prod.fst).Nodup) (s last : List UInt8) (f : Bool) : glC m s last f = glC l s last f := by
  unfold glC
  split
  · rfl
  · split
    · rfl
    · rw [(stC_perm h hl _ _).1]
theorem glM_perm {m l : GM} (h : m.Perm l) (hw : GWF l) (s : List UInt8) : (glM m s).Perm (glG l s) := by
  cases hc : cutC 32 s with
  | none => unfold glM glG; rw [hc]; exact h
  | some p =>
    cases hd : nmL 10 p.2 with
    | none => unfold glM glG; rw [hc]; simp only; rw [hd]; exact h
    | some n =>
      rw [glM_set hc hd, glG_set hc hd]
      obtain ⟨e1, e2, _⟩ := stC_perm h hw.srt.nodup p.1 (n : Int)
      unfold stM stG
      rw [e1, e2]
      split
      · exact set_perm h hw.srt _ _
      · exact h
theorem GWF.glG {l : GM} (hw : GWF l) (s : List UInt8) : GWF (glG l s) := by
  unfold Go.Proofs.YtkjcclbnbbbfaaaGreatDoor.glG
  split
  · exact hw
  · split
    · exact hw
    · exact hw.stG _ _
/-- both read the same -/
theorem rd_same (f : Nat) : ∀ (i : Nat) (last : List UInt8) (m l : GM) (s : List UInt8), m.Perm l → GWF l → s.length + 1 ≤ f →
    (rdg f i last m s).2 = (rdD i last l (splC 10 s)).2 ∧ (rdg f i last m s).1.Perm (rdD i last l (splC 10 s)).1 ∧ GWF (rdD i last l (splC 10 s)).1 := by
  induction f with
  | zero => intro i last m l s _ _ h; omega
  | succ f ih =>
    intro i last m l s hp hw hf
    cases hc : cutC 10 s with
    | none =>
      have hs : splC 10 s = [s] := splC_none (cutC_none.1 hc)
      rw [hs, rdD]
      by_cases h0 : s = []
      · subst h0
        rw [rdg_end, if_pos rfl]
        exact ⟨rfl, hp, hw⟩
      · rw [rdg_none h0 hc, if_neg h0]
        exact ⟨rfl, hp, hw⟩
    | some p =>
      have hs : splC 10 s = p.1 :: splC 10 p.2 := by rw [splC_cut, hc]
      have h0 : s ≠ [] := by rintro rfl; cases hc
      have hg := glC_perm hp hw.srt.nodup p.1 last (i == 0)
      have hd : splC 10 p.2 = (splH 10 p.2).1 :: (splH 10 p.2).2 := rfl
      rw [hs, hd, rdD]
      by_cases hb : glC m p.1 last (i == 0) = 0
      · rw [rdg_step h0 hc hb, if_neg (by rw [← hg]; simpa using hb), ← hd]
        exact ih _ _ _ _ _ (glM_perm hp hw p.1) (hw.glG p.1) (by have := (cut10_len hc).1; omega)
      · rw [rdg_bad h0 hc hb, if_pos (by rw [← hg]; exact hb), ← hg]
        exact ⟨rfl, hp, hw⟩
def readD (s : List UInt8) : GM × Nat × Int := rdD 0 [] [] (splC 10 s)
theorem readG_D (s : List UInt8) : (readG s).2 = (readD s).2 ∧ (readG s).1.Perm (readD s).1 ∧ GWF (readD s).1 := rd_same _ 0 [] [] [] s (List.Perm.refl _) GWF.nil (Nat.le_refl _)
/-- a line's first blank -/
theorem cut_at {s : List UInt8} {k : Nat} (h : ∀ j, j < k → s[j]? ≠ some 32) (hk : s[k]? = some 32) : cutC 32 s = some (s.take k, s.drop (k + 1)) := by
  have hl := (List.getElem?_eq_some_iff.1 hk)
  obtain ⟨hl, he⟩ := hl
  have hn : (32 : UInt8) ∉ s.take k := by
    intro hm
    obtain ⟨j, hj, e⟩ := List.mem_iff_getElem.1 hm
    rw [List.length_take] at hj
    rw [List.getElem_take] at e
    exact h j (by omega) (by rw [List.getElem?_eq_getElem (by omega), e])
  have := cutC_of hn (s.drop (k + 1))
  rw [show s.take k ++ 32 :: s.drop (k + 1) = s by rw [← he, ← List.drop_eq_getElem_cons hl, List.take_append_drop]] at this
  exact this
theorem cut_not {s : List UInt8} (h : ∀ j, j < s.length → s[j]? ≠ some 32) : cutC 32 s = none := by
  refine cutC_none.2 fun hm => ?_
  obtain ⟨j, hj, e⟩ := List.mem_iff_getElem.1 hm
  exact h j hj (by rw [List.getElem?_eq_getElem hj, e])
end Go.Proofs.YtkjcclbnbbbfaaaGreatDoor
/- Contract of the document's ReadGate. -/
namespace Go.Proofs.YtkjcclbnbbbfaaaGreatDoor
open Go.RowKit
set_option linter.unusedVariables false

theorem strV_get (l : List (List UInt8)) (k : Nat) (h : k < l.length) : (strV l)[k]? = some (.string (bs l[k])) := by
  unfold strV; rw [List.getElem?_map, List.getElem?_eq_getElem h]; rfl
theorem nmZ_no {d : List UInt8} (h : nmL 10 d = none) : nmZ 10 d = -1 := nmZ_none h
attribute [local irreducible] rdD glC glG cutC nmL nameB stC stG splC cutA nmZ
set_option maxRecDepth 100000 in
set_option maxHeartbeats 25600000 in
theorem rreadgate_any (s : List UInt8) (w : World) (hs : s.length ≤ 1000000) :
    Calls Tryz.prog 35 #[.string (bs s)] w fun e w' => ∃ pv, e = .returned (.tuple #[pv, rfv (readD s).2]) ∧
      ((readD s).2.1 = 0 → ∃ rb v, pv = .pointer (some ⟨rb, 0, none⟩) ∧ RgAt w' rb (readD s).1 v ∧ w.heap.size ≤ rb) ∧ ((readD s).2.1 ≠ 0 → pv = .pointer none) ∧ Below w.heap.size w w' := by
  have CT := Lib.hid (fun (w' : World) => rcut_any 10 10 (by decide) s w' (by omega))
  have hL1 : 1 ≤ (splC 10 s).length := by rw [splC_len]; omega
  have hL2 : (splC 10 s).length ≤ 1000001 := by rw [splC_len]; have := List.count_le_length (a := (10 : UInt8)) (l := s); omega
  have hLM := Lib.hid (fun x hx => (splC_mem (c := 10) s.length s (Nat.le_refl _) x hx).1)
  have HR : Hid (readD s = rdD 0 [] [] ((splC 10 s).drop 0)) := Lib.hid rfl
  generalize readD s = R at *
  generalize splC 10 s = L at *
  have hz0 := heap_alloc_new w (.cells #[.int .i64 0, .int .i64 0] 42)
  have b0 := wb_alloc w (.cells #[.int .i64 0, .int .i64 0] 42)
  go_enter Tryz.func35, Tryz.ntmps35
  go_wp2_with fail
  have e0 : (w.alloc (.cells #[.int .i64 0, .int .i64 0] 42)).heap.size = w.heap.size + 1 := by simp
  generalize w.alloc (.cells #[.int .i64 0, .int .i64 0] 42) = w0 at *
  have rg0 := RgAt.new (w := w0)
  have b1 := wb_alloc w0 (.cells #[.slice none 0 0] 64)
  rw [e0] at rg0
  have e1 : (w0.alloc (.cells #[.slice none 0 0] 64)).heap.size = w.heap.size + 2 := by simp [e0]
  have hz1 := (b1.block w.heap.size (by omega)).trans hz0
  have B1 := Lib.hid (below_trans' b0 b1)
  clear b0 b1
  generalize w0.alloc (.cells #[.slice none 0 0] 64) = w1 at *
  refine (CT.out w1).mono ?_
  rintro e w2 ⟨v5, rfl, own5, b2⟩
  have hz2 := (b2.block w.heap.size (by omega)).trans hz1
  have rg2 := rg0.below b2
  have own2 := owns_mono' own5 (show w.heap.size + 2 ≤ w1.heap.size by omega)
  have B2 := Lib.hid (below_trans' B1.out b2)
  obtain ⟨va, vc, rfl⟩ := owns_slice own2
  clear CT hz0 rg0 hz1 own5 b2 B1 e0 e1
  go_wp2_with fail
  go_loopw [6, 7, 8, 9, 10, 11, 12] (fun la i _ _ _ _ _ wr => ∃ (j : Nat) (last : List UInt8) (l : GM) (v : Value), i = .int .i64 j ∧ la = .string (bs last) ∧ j + 1 ≤ L.length ∧ last.length ≤ s.length ∧ R = rdD j last l (L.drop j) ∧ GWF l ∧ RgAt wr (w.heap.size + 1) l v ∧
    wr.ownsRow (w.heap.size + 2) 9 1 (.slice va L.length vc) L.length (strV L) ∧ wr.heap[w.heap.size]? = some (.cells #[.int .i64 0, .int .i64 0] 42 (0, 0)) ∧ Below w.heap.size w wr) (fun _ i _ _ _ _ _ _ => L.length - (intOf i).toNat)
  case atStart => exact ⟨0, [], [], _, rfl, by rw [bs_nil], hL1, by simp, HR.out, GWF.nil, rg2, own2, hz2, B2.out⟩
  case round =>
    clear rg2 own2 hz2 B2 HR
    obtain ⟨j, last, l, v, rfl, rfl, hj, hla, hR, hwf, rg, own, hx, bel⟩ := hrel
    have HRR := Lib.hid hR
    have HWF := Lib.hid hwf
    have RG := Lib.hid rg
    have OWN := Lib.hid own
    have HX := Lib.hid hx
    have BW := Lib.hid bel
    have HF0 : Hid (wr.frozen? ⟨w.heap.size, 0, none⟩ = false) := Lib.hid (by simp [World.frozen?, hx])
    have HF1 : Hid (wr.frozen? ⟨w.heap.size, 1, none⟩ = false) := Lib.hid (by simp [World.frozen?, hx])
    have HC0 : Hid (wr.cell? ⟨w.heap.size, 0, none⟩ = some (.int .i64 0)) := Lib.hid (by simp [World.cell?, hx])
    have HC1 : Hid (wr.cell? ⟨w.heap.size, 1, none⟩ = some (.int .i64 0)) := Lib.hid (by simp [World.cell?, hx])
    have hw1 : IntKind.i64.wrap ((L.length : Int) - 1) = (L.length : Int) - 1 := IntWalk.i64_in _ (by omega)
    obtain ⟨s0', n0', c0', e1, _, _, _, g1⟩ := (SliceIs.ownedK own).get
    cases e1
    obtain ⟨ad, rfl, d0⟩ := g1 _ _ (strV_get L j (by omega))
    have hxl := hLM.out _ (List.getElem_mem (show j < L.length by omega))
    have y1 : (0 : Int) ≤ j := by omega
    have y2 : (j : Int).toNat = j := by omega
    have y3 : (j : Int) < L.length := by omega
    clear hR hwf rg own hx bel g1
    by_cases hlt : j + 1 < L.length
    · have hltI : (j : Int) < (L.length : Int) - 1 := by omega
      have STEP := Lib.hid (fun hg => rdD_step (L := L) (j := j) (last := last) (l := l) hlt hg)
      have BAD := Lib.hid (fun c hg hc => rdD_bad (L := L) (j := j) (last := last) (l := l) (c := c) hlt hg hc)
      have KK := Lib.hid (show j + 1 + 1 ≤ L.length from hlt)
      generalize L[j]'(by omega) = x at *
      have hsz : (bs x).size = x.length := bs_size x
      have HGET := Lib.hid (fun k h => bs_get x k h)
      have GV : Hid (∀ (k : Nat) (h : k < (bs x).size), ((bs x)[k]'h).toNat < 256) := fun k h => ((bs x)[k]'h).toNat_lt
      have SUB := Lib.hid (fun i k => sub_bs x i k)
      have hlx : last.length ≤ 1000000 := by omega
      go_wp2_with fail
      go_loopw [8] (fun kk wr' => ∃ k : Nat, kk = .int .i64 k ∧ k ≤ x.length ∧ (∀ i, i < k → x[i]? ≠ some 32) ∧ wr' = wr) (fun kk _ => x.length - (intOf kk).toNat)
      case atStart => exact ⟨0, rfl, by omega, fun i hi => by omega, rfl⟩
      case round =>
        obtain ⟨k, rfl, hk, hno, rfl⟩ := hrel
        have HNO := Lib.hid hno
        clear hno
        have x1 : (0 : Int) ≤ k := by omega
        have x2 : (k : Int).toNat = k := by omega
        by_cases hkl : k < x.length
        · have hkI : (k : Int) < x.length := by omega
          have hks : k < (bs x).size := by omega
          have hg := HGET.out k hks
          have hcv := GV.out k hks
          by_cases hc : ((bs x)[k]'hks) = 32
          · have hcI : ((((bs x)[k]'hks).toNat : Int) != 32) = false := by rw [hc]; rfl
            have hke : ((k : Int) == x.length) = false := by rw [beq_eq_false_iff_ne]; omega
            have CUT := cut_at HNO.out (by rw [hg, hc])
            have EXA := SUB.out 0 k
            have EXB := SUB.out (k + 1) x.length
            rw [List.drop_zero, Nat.sub_zero] at EXA
            rw [show (x.drop (k + 1)).take (x.length - (k + 1)) = x.drop (k + 1) from List.take_of_length_le (by rw [List.length_drop]; omega)] at EXB
            have hnl : (x.take k).length ≤ x.length := by rw [List.length_take]; omega
            have hdl : (x.drop (k + 1)).length ≤ x.length := by rw [List.length_drop]; omega
            have hcA : cutA 32 x = x.take k := by unfold cutA; rw [CUT]
            have x3 : (k : Int) + 1 ≤ x.length := by omega
            have x4 : (0 : Int) ≤ (k : Int) + 1 := by omega
            have x5 : ((k : Int) + 1).toNat = k + 1 := by omega
            have x6 : (k : Int) ≤ x.length := by omega
            generalize x.take k = nm at *
            generalize x.drop (k + 1) = d at *
            have NB := Lib.hid (numberOf_any (bs d) 10 wr (by decide) (by rw [bs_size]; omega))
            rw [bs_list] at NB
            have NI := Lib.hid (isName_b (bs nm) wr (by rw [bs_size]; omega))
            rw [bs_list] at NI
            clear hc hg hcv HNO
            cases hd : nmL 10 d with
            | none =>
              have RD := Lib.hid (HRR.out.trans (BAD.out 1 (glC_num CUT hd) (by decide)))
              have HC : Hid ((1 : Nat) ≠ 0) := Lib.hid (by decide)
              rw [nmZ_none hd] at NB
              clear CUT hd STEP BAD
              go_wp2_with fail
              refine NB.out.mono ?_
              rintro e w7 ⟨rfl, rfl⟩
              have NI2 := Lib.hid NI.out
              clear NB NI
              go_wp2_with fail
              refine NI2.out.mono ?_
              rintro e w8 ⟨rfl, rfl⟩
              clear NI2
              have f0 := HF0.out
              have f1 := HF1.out
              have k0 := HC0.out
              have k1 := HC1.out
              obtain ⟨r0, r1⟩ := set2 HX.out (.int .i64 1) (.int .i64 j)
              have bb := (BW.out.setCell (p := ⟨w.heap.size, 0, none⟩) (Nat.le_refl _) (.int .i64 1)).setCell (p := ⟨w.heap.size, 1, none⟩) (Nat.le_refl _) (.int .i64 j)
              go_wp2_with fail
              refine bodyPost_ret (by simp [results, Tryz.results35, go_sem, r0, r1]; try rfl) rfl ?_
              exact ⟨_, by rw [RD.out, rfv_is] <;> rfl, fun h => absurd h (by rw [RD.out]; exact HC.out), fun _ => rfl, bb⟩
            | some n =>
              rw [nmZ_some hd] at NB
              have hn0 : ¬ (n : Int) < 0 := by omega
              by_cases hnm : nameB nm = true
              · rw [hnm] at NI
                by_cases hbd : n < 1 ∨ 2147483648 < n
                · have RD := Lib.hid (HRR.out.trans (BAD.out 2 (glC_bound CUT hd hnm hbd) (by decide)))
                  have HC : Hid ((2 : Nat) ≠ 0) := Lib.hid (by decide)
                  have hor : (n : Int) < 1 ∨ ¬ (n : Int) < 1 ∧ (2147483648 : Int) < n := by omega
                  clear CUT hd STEP BAD hbd hnm
                  rcases hor with hI | ⟨hI, hJ⟩
                  all_goals
                    go_wp2_with fail
                    refine NB.out.mono ?_
                    rintro e w7 ⟨rfl, rfl⟩
                    have NI2 := Lib.hid NI.out
                    clear NB NI
                    go_wp2_with fail
                    refine NI2.out.mono ?_
                    rintro e w8 ⟨rfl, rfl⟩
                    clear NI2
                    have f0 := HF0.out
                    have f1 := HF1.out
                    have k0 := HC0.out
                    have k1 := HC1.out
                    obtain ⟨r0, r1⟩ := set2 HX.out (.int .i64 2) (.int .i64 j)
                    have bb := (BW.out.setCell (p := ⟨w.heap.size, 0, none⟩) (Nat.le_refl _) (.int .i64 2)).setCell (p := ⟨w.heap.size, 1, none⟩) (Nat.le_refl _) (.int .i64 j)
                    go_wp2_with fail
                    refine bodyPost_ret (by simp [results, Tryz.results35, go_sem, r0, r1]; try rfl) rfl ?_
                    exact ⟨_, by rw [RD.out, rfv_is] <;> rfl, fun h => absurd h (by rw [RD.out]; exact HC.out), fun _ => rfl, bb⟩
                · have hI : ¬ (n : Int) < 1 := by omega
                  have hJ : ¬ (2147483648 : Int) < n := by omega
                  have hz : (0 : Int) < j ∧ ltL last nm = false ∨ (¬ (0 : Int) < j ∨ (0 : Int) < j ∧ ltL last nm = true) ∧ ¬ ((j == 0) = false ∧ ltL last nm = false) := by
                    by_cases hj0 : j = 0
                    · subst hj0; exact .inr ⟨.inl (by omega), by simp⟩
                    · cases hlt : ltL last nm
                      · exact .inl ⟨by omega, rfl⟩
                      · exact .inr ⟨.inr ⟨by omega, rfl⟩, by simp⟩
                  rcases hz with ⟨hj0, hlt2⟩ | ⟨hor, hord⟩
                  · have hjf : (j == 0) = false := by rw [beq_eq_false_iff_ne]; omega
                    have RD := Lib.hid (HRR.out.trans (BAD.out 9 (by rw [hjf]; exact glC_order CUT hd hnm hbd hlt2) (by decide)))
                    have HC : Hid ((9 : Nat) ≠ 0) := Lib.hid (by decide)
                    have hle : ∀ w, (binOp .leq 9 (.string (bs nm)) (.string (bs last))).run Tryz.prog w = .ok (.bool true) w := fun w => by rw [run_leq, hlt2]; rfl
                    clear CUT hd STEP BAD hbd hnm hjf hlt2
                    go_wp2_with fail
                    refine NB.out.mono ?_
                    rintro e w7 ⟨rfl, rfl⟩
                    have NI2 := Lib.hid NI.out
                    clear NB NI
                    go_wp2_with fail
                    refine NI2.out.mono ?_
                    rintro e w8 ⟨rfl, rfl⟩
                    clear NI2
                    have f0 := HF0.out
                    have f1 := HF1.out
                    have k0 := HC0.out
                    have k1 := HC1.out
                    obtain ⟨r0, r1⟩ := set2 HX.out (.int .i64 9) (.int .i64 j)
                    have bb := (BW.out.setCell (p := ⟨w.heap.size, 0, none⟩) (Nat.le_refl _) (.int .i64 9)).setCell (p := ⟨w.heap.size, 1, none⟩) (Nat.le_refl _) (.int .i64 j)
                    go_wp2_with fail
                    refine bodyPost_ret (by simp [results, Tryz.results35, go_sem, r0, r1]; try rfl) rfl ?_
                    exact ⟨_, by rw [RD.out, rfv_is] <;> rfl, fun h => absurd h (by rw [RD.out]; exact HC.out), fun _ => rfl, bb⟩
                  · have GC := glC_set (m := l) (last := last) (f := j == 0) CUT hd hnm hbd hord
                    have GG := glG_set (l := l) CUT hd
                    have ST := Lib.hid (rgsets_any nm (n : Int) RG.out HWF.out (by omega))
                    have HW2 := Lib.hid (HWF.out.stG nm (n : Int))
                    rw [GG, hcA, GC] at STEP
                    rw [GC] at BAD
                    have STEP := STEP
                    have BAD := BAD
                    simp only at STEP BAD ST HW2
                    have hC12 := stC_le l nm (n : Int)
                    generalize hC : stC l nm (n : Int) = C at *
                    generalize stG l nm (n : Int) = l2 at *
                    clear CUT hd hbd hnm hord GC GG hcA hC
                    have hor2 : ¬ (0 : Int) < j ∨ (0 : Int) < j ∧ ∀ w, (binOp .leq 9 (.string (bs nm)) (.string (bs last))).run Tryz.prog w = .ok (.bool false) w := by
                      rcases hor with h | ⟨h1, h2⟩
                      · exact .inl h
                      · exact .inr ⟨h1, fun w => by rw [run_leq, h2]; rfl⟩
                    clear hor
                    rcases hor2 with hz1 | ⟨hz1, hle⟩
                    all_goals
                      go_wp2_with fail
                      refine NB.out.mono ?_
                      rintro e w7 ⟨rfl, rfl⟩
                      have NI2 := Lib.hid NI.out
                      clear NB NI
                      go_wp2_with fail
                      refine NI2.out.mono ?_
                      rintro e w8 ⟨rfl, rfl⟩
                      clear NI2
                      go_wp2_with fail
                      refine ST.out.mono ?_
                      rintro e w9 ⟨rfl, ⟨v9, rg9⟩, c9⟩
                      have hne : ¬ (fun y => y = w.heap.size + 1) w.heap.size := by simp
                      have HX9 := Lib.hid ((c9.block w.heap.size (lt_of_block HX.out) hne).trans HX.out)
                      have BW9 := Lib.hid (c9.below BW.out (fun y hy => by subst hy; omega))
                      have OWN9 := Lib.hid (own_other OWN.out c9 (fun y hy he => by have := own_base OWN.out hy; omega))
                      have RG9 := Lib.hid rg9
                      clear rg9 c9 hne ST
                      by_cases hC0 : C = 0
                      · have hCI : ¬ (0 : Int) < (C : Int) := by omega
                        have RD := Lib.hid (HRR.out.trans (STEP.out hC0))
                        clear hC0 STEP BAD
                        go_wp2_with fail
                        go_roundw
                        case rel => exact ⟨j + 1, nm, l2, v9, by go_num, rfl, KK.out, by omega, RD.out, HW2.out, RG9.out, OWN9.out, HX9.out, BW9.out⟩
                        case measure => have := KK.out; simp [intOf]; omega
                      · have hCI : (0 : Int) < (C : Int) := by omega
                        have RD := Lib.hid (HRR.out.trans (BAD.out C rfl hC0))
                        have HC := Lib.hid hC0
                        have f0 : w9.frozen? ⟨w.heap.size, 0, none⟩ = false := by simp [World.frozen?, HX9.out]
                        have f1 : w9.frozen? ⟨w.heap.size, 1, none⟩ = false := by simp [World.frozen?, HX9.out]
                        have k0 : w9.cell? ⟨w.heap.size, 0, none⟩ = some (.int .i64 0) := by simp [World.cell?, HX9.out]
                        have k1 : w9.cell? ⟨w.heap.size, 1, none⟩ = some (.int .i64 0) := by simp [World.cell?, HX9.out]
                        obtain ⟨r0, r1⟩ := set2 HX9.out (.int .i64 C) (.int .i64 j)
                        have bb := (BW9.out.setCell (p := ⟨w.heap.size, 0, none⟩) (Nat.le_refl _) (.int .i64 C)).setCell (p := ⟨w.heap.size, 1, none⟩) (Nat.le_refl _) (.int .i64 j)
                        clear hC0 STEP BAD
                        go_wp2_with fail
                        refine bodyPost_ret (by simp [results, Tryz.results35, go_sem, r0, r1]; try rfl) rfl ?_
                        exact ⟨_, by rw [RD.out, rfv_is] <;> rfl, fun h => absurd h (by rw [RD.out]; exact HC.out), fun _ => rfl, bb⟩
              · have hnm' : nameB nm = false := by simpa using hnm
                rw [hnm'] at NI
                have RD := Lib.hid (HRR.out.trans (BAD.out 5 (glC_name CUT hd hnm') (by decide)))
                have HC : Hid ((5 : Nat) ≠ 0) := Lib.hid (by decide)
                clear CUT hd STEP BAD hnm hnm'
                go_wp2_with fail
                refine NB.out.mono ?_
                rintro e w7 ⟨rfl, rfl⟩
                have NI2 := Lib.hid NI.out
                clear NB NI
                go_wp2_with fail
                refine NI2.out.mono ?_
                rintro e w8 ⟨rfl, rfl⟩
                clear NI2
                have f0 := HF0.out
                have f1 := HF1.out
                have k0 := HC0.out
                have k1 := HC1.out
                obtain ⟨r0, r1⟩ := set2 HX.out (.int .i64 5) (.int .i64 j)
                have bb := (BW.out.setCell (p := ⟨w.heap.size, 0, none⟩) (Nat.le_refl _) (.int .i64 5)).setCell (p := ⟨w.heap.size, 1, none⟩) (Nat.le_refl _) (.int .i64 j)
                go_wp2_with fail
                refine bodyPost_ret (by simp [results, Tryz.results35, go_sem, r0, r1]; try rfl) rfl ?_
                exact ⟨_, by rw [RD.out, rfv_is] <;> rfl, fun h => absurd h (by rw [RD.out]; exact HC.out), fun _ => rfl, bb⟩
          · have hcI : ((((bs x)[k]'hks).toNat : Int) != 32) = true := by
              rw [bne_iff_ne]
              intro e
              exact hc (UInt8.toNat_inj.1 (by have : (32 : UInt8).toNat = 32 := rfl; omega))
            have N2 : Hid (∀ i, i < k + 1 → x[i]? ≠ some 32) := Lib.hid fun i hi e => by
              by_cases hik : i = k
              · subst hik
                rw [hg] at e
                exact hc (Option.some.inj e)
              · exact HNO.out i (by omega) e
            have KX := Lib.hid (show k + 1 ≤ x.length from hkl)
            clear hg hcv hc
            go_wp2_with fail
            go_roundw
            case rel => exact ⟨k + 1, by go_num, KX.out, N2.out, by trivial⟩
            case measure => simp [intOf]; omega
        · have hkI : ¬ (k : Int) < x.length := by omega
          have hke : ((k : Int) == x.length) = true := by rw [beq_iff_eq]; omega
          have RD := Lib.hid (HRR.out.trans (BAD.out 1 (glC_cut (cut_not (fun i hi => HNO.out i (by omega)))) (by decide)))
          have HC : Hid ((1 : Nat) ≠ 0) := Lib.hid (by decide)
          clear STEP BAD
          have f0 := HF0.out
          have f1 := HF1.out
          have k0 := HC0.out
          have k1 := HC1.out
          obtain ⟨r0, r1⟩ := set2 HX.out (.int .i64 1) (.int .i64 j)
          have bb := (BW.out.setCell (p := ⟨w.heap.size, 0, none⟩) (Nat.le_refl _) (.int .i64 1)).setCell (p := ⟨w.heap.size, 1, none⟩) (Nat.le_refl _) (.int .i64 j)
          go_wp2_with fail
          refine bodyPost_ret (by simp [results, Tryz.results35, go_sem, r0, r1]; try rfl) rfl ?_
          exact ⟨_, by rw [RD.out, rfv_is] <;> rfl, fun h => absurd h (by rw [RD.out]; exact HC.out), fun _ => rfl, bb⟩
    · have hltI : ¬ (j : Int) < (L.length : Int) - 1 := by omega
      have hjL : j + 1 = L.length := by omega
      have EN := HRR.out.trans (rdD_end (L := L) (j := j) (last := last) (l := l) hjL)
      have y4 : (L.length : Int) - 1 = j := by omega
      have y5 : ((L.length : Int) - 1).toNat = j := by omega
      have y6 : (0 : Int) ≤ (L.length : Int) - 1 := by omega
      have y7 : (L.length : Int) - 1 < L.length := by omega
      generalize L[j]'(by omega) = x at *
      by_cases hx0 : x = []
      · subst hx0
        rw [if_pos rfl] at EN
        rw [bs_nil] at d0
        have RD := Lib.hid EN
        clear EN
        go_wp2_with fail
        refine (rfine_any _).mono ?_
        rintro e w7 ⟨rfl, b7⟩
        have hx7 := (b7.block w.heap.size (lt_of_block HX.out)).trans HX.out
        have f0 : w7.frozen? ⟨w.heap.size, 0, none⟩ = false := by simp [World.frozen?, hx7]
        have f1 : w7.frozen? ⟨w.heap.size, 1, none⟩ = false := by simp [World.frozen?, hx7]
        have k0 : w7.cell? ⟨w.heap.size, 0, none⟩ = some (.int .i64 0) := by simp [World.cell?, hx7]
        have k1 : w7.cell? ⟨w.heap.size, 1, none⟩ = some (.int .i64 0) := by simp [World.cell?, hx7]
        obtain ⟨r0, r1⟩ := set2 hx7 (.int .i64 0) (.int .i64 (-1))
        have bb := ((below_trans' BW.out b7).setCell (p := ⟨w.heap.size, 0, none⟩) (Nat.le_refl _) (.int .i64 0)).setCell (p := ⟨w.heap.size, 1, none⟩) (Nat.le_refl _) (.int .i64 (-1))
        have ch := ((Chg.refl w7 (fun y => y = w.heap.size)).set ⟨w.heap.size, 0, none⟩ (.inl rfl) (.int .i64 0)).set ⟨w.heap.size, 1, none⟩ (.inl rfl) (.int .i64 (-1))
        have RG7 := Lib.hid ((RG.out.below b7).kept ch (by omega) (fun y hy he => by have := own_base (RG.out.below b7).own hy; omega))
        clear hx7 ch b7
        go_wp2_with fail
        refine bodyPost_ret (by simp [results, Tryz.results35, go_sem, r0, r1]; try rfl) rfl ?_
        exact ⟨_, by rw [RD.out, rfv_is] <;> rfl, fun _ => ⟨w.heap.size + 1, v, rfl, by rw [RD.out]; exact RG7.out, by omega⟩, fun h => absurd (by rw [RD.out]) h, bb⟩
      · rw [if_neg hx0] at EN
        have RD := Lib.hid EN
        have HC : Hid ((1 : Nat) ≠ 0) := Lib.hid (by decide)
        have hne := isEmpty_no hx0
        clear EN hx0
        have f0 := HF0.out
        have f1 := HF1.out
        have k0 := HC0.out
        have k1 := HC1.out
        obtain ⟨r0, r1⟩ := set2 HX.out (.int .i64 1) (.int .i64 j)
        have bb := (BW.out.setCell (p := ⟨w.heap.size, 0, none⟩) (Nat.le_refl _) (.int .i64 1)).setCell (p := ⟨w.heap.size, 1, none⟩) (Nat.le_refl _) (.int .i64 j)
        go_wp2_with fail
        refine bodyPost_ret (by simp [results, Tryz.results35, go_sem, r0, r1]; try rfl) rfl ?_
        exact ⟨_, by rw [RD.out, rfv_is] <;> rfl, fun h => absurd h (by rw [RD.out]; exact HC.out), fun _ => rfl, bb⟩
end Go.Proofs.YtkjcclbnbbbfaaaGreatDoor
