/- WindowOnce: whatever is lost, doubled, or turned around, what is told is what was pushed. Written by gen_winonce.py. -/
import Derived.Test.YtiomenchdaondaaDoorWinOnceS
import Derived.Test.YtiomenchdaondaaDoorLaid
namespace Go.Proofs.YtiomenchdaondaaDoor
open Go.RowKit
set_option linter.unusedVariables false
attribute [local irreducible] takeR sTake ackMore aheadB numI

theorem strs_of' (a : List ByteArray) : a.map Value.string = (a.map fun s => s.data.toList).map fun x => Value.string (bs x) := by
  rw [List.map_map]; congr 1; funext s; simp [bs_of]
theorem infoPkt : (Tryd.prog.info? 44).map (fun i => (i.zero, i.size, i.bytes)) = some (some (.agg #[.int .i64 0, .string ⟨#[]⟩]), 2, 24) := by kernel_rfl
theorem stN_bd (first : Int) : 0 ≤ stN first ∧ stN first < 65536 := md_lt _
theorem getD_at {L : List (List UInt8)} {k : Nat} (h : k < L.length) : L.getD k [] = L[k] := by simp [List.getD, h]
theorem take_T {L : List (List UInt8)} {d : Nat} (h : d ≤ L.length) : (List.range d).map (fun i => L.getD i []) = L.take d := by
  apply List.ext_getElem
  · simp; omega
  · intro i h1 h2
    simp at h1
    simp [List.getD, show i < L.length by omega]
/-- a cell of texts that came in, in whatever later world -/
theorem text_cell {w w1 : World} {s : Option Addr} {n c : Nat} {L : List (List UInt8)} (h : SliceIs w (.slice s n c) 1 (L.map fun x => Value.string (bs x))) (hb : Below w.heap.size w w1) {k : Nat} (hk : k < L.length) :
    ∃ a, s = some a ∧ ∀ W, Below w1.heap.size w1 W → W.cell? (a.add k) = some (.string (bs (L.getD k []))) := by
  rw [getD_at hk]
  obtain ⟨s', n', c', e, _, _, _, g⟩ := h.get
  cases e
  obtain ⟨a, ha, _⟩ := g k (.string (bs L[k])) (by simp; exact ⟨_, List.getElem?_eq_getElem hk, rfl⟩)
  refine ⟨a, ha, fun W hW => ?_⟩
  obtain ⟨s', n', c', e, _, _, _, g⟩ := (h.below (below_trans' hb hW)).get
  cases e
  obtain ⟨a', ha', h⟩ := g k (.string (bs L[k])) (by simp; exact ⟨_, List.getElem?_eq_getElem hk, rfl⟩)
  rw [ha] at ha'
  cases ha'
  exact h
theorem int_cell {w w1 : World} {s : Option Addr} {n c : Nat} {L : List Int} (h : SliceIs w (.slice s n c) 1 (L.map (Value.int .i64))) (hb : Below w.heap.size w w1) {k : Nat} (hk : k < L.length) :
    ∃ a, s = some a ∧ ∀ W, Below w1.heap.size w1 W → W.cell? (a.add k) = some (.int .i64 L[k]) := by
  obtain ⟨s', n', c', e, _, _, _, g⟩ := h.get
  cases e
  obtain ⟨a, ha, _⟩ := g k (.int .i64 L[k]) (by simp)
  refine ⟨a, ha, fun W hW => ?_⟩
  obtain ⟨s', n', c', e, _, _, _, g⟩ := (h.below (below_trans' hb hW)).get
  cases e
  obtain ⟨a', ha', h⟩ := g k (.int .i64 L[k]) (by simp)
  rw [ha] at ha'
  cases ha'
  exact h
set_option maxRecDepth 100000 in
set_option maxHeartbeats 25600000 in
theorem windowOnce_walk (E : Nat → Addr) (a0 : Int) (s1 : Option Addr) (n1 c1 : Nat) (a1 : List ByteArray) (s2 : Option Addr) (n2 c2 : Nat) (a2 : List Int) (w : World) (_ : (Lit.int .i64 a0).wf = true) (_ : SliceIs w (.slice s1 n1 c1) 1 (a1.map .string) ∧ ∀ s ∈ a1, s.size ≤ maxLen) (_ : SliceIs w (.slice s2 n2 c2) 1 (a2.map (.int .i64)) ∧ ∀ n ∈ a2, (Lit.int .i64 n).wf = true) (hE : ∀ c ∈ [2, 8], Has E w c ∧ Sent w (E c)) (_ : ∀ c ∈ [2, 8], ∀ c' ∈ [2, 8], c ≠ c' → E c ≠ E c') :
    Calls Tryd.prog 4 #[.int .i64 a0, .slice s1 n1 c1, .slice s2 n2 c2] w fun e w' => e = .returned (.bool true) ∧ Below w.heap.size w w' := by
  rename_i wf0 hsl0 hsl2 hne
  obtain ⟨hsl, hsz⟩ := hsl0
  obtain ⟨hslp, hszp⟩ := hsl2
  have HB := Lib.hid (hE 2 (by simp)).1
  have HF := Lib.hid (hE 8 (by simp)).1
  have WD := Lib.hid (windowed_ok E w HB.out HF.out)
  rw [strs_of'] at hsl
  have hln : (a1.map fun s => s.data.toList).length = n1 ∧ n1 ≤ c1 ∧ c1 ≤ maxLen := by
    obtain ⟨s, n, c, e, h1, h2, h3, _⟩ := hsl.get
    cases e
    simp at h1
    exact ⟨by simp; omega, h2, h3⟩
  have hln2 : a2.length = n2 ∧ n2 ≤ c2 ∧ c2 ≤ maxLen := by
    obtain ⟨s, n, c, e, h1, h2, h3, _⟩ := hslp.get
    cases e
    simp at h1
    exact ⟨by omega, h2, h3⟩
  have hsmall : ∀ x ∈ (a1.map fun s => s.data.toList), x.length ≤ maxLen := by
    intro x hx
    obtain ⟨s, hs, rfl⟩ := List.mem_map.1 hx
    have := hsz s hs
    simpa using this
  have hint : ∀ x ∈ a2, -9223372036854775808 ≤ x ∧ x ≤ 9223372036854775807 := by
    intro x hx
    have := hszp x hx
    simpa [Lit.wf, IntKind.min, IntKind.max, IntKind.signed, IntKind.bits] using this
  generalize (a1.map fun s => s.data.toList) = L at *
  obtain ⟨rfl, hn1, hc1⟩ := hln
  obtain ⟨rfl, hn2, hc2⟩ := hln2
  unfold maxLen at hc1 hc2
  have HSL := Lib.hid hsl
  have HSP := Lib.hid hslp
  have HSM := Lib.hid hsmall
  have HIN := Lib.hid hint
  clear hsl hslp hsmall hsz hszp hE hne wf0 hint
  by_cases hlen : L.length ≤ 30
  · have hlI : ¬ (30 : Int) < L.length := by omega
    by_cases hlen2 : a2.length ≤ 300
    · have hlI2 : ¬ (300 : Int) < a2.length := by omega
      have hst := stN_bd a0
      have NS := Lib.hid (fun w' => newsnd_any a0 w')
      have NR := Lib.hid (fun w' => newrcv_any a0 w')
      have N0 := Lib.hid (numI_zero hst)
      generalize stN a0 = st at *
      obtain ⟨i0, hi, hz0, hz1, hz2⟩ := info_parts infoPkt
      obtain ⟨j0, hj, hy0, hy1, hy2⟩ := info_parts infoStr
      obtain ⟨T, hT⟩ : ∃ T : Nat → List UInt8, T = fun i => L.getD i [] := ⟨_, rfl⟩
      have HT := Lib.hid hT
      clear hT hst
      go_enter Tryd.func4, Tryd.ntmps4
      go_wp2_with fail
      refine WD.out.mono ?_
      rintro e w1 ⟨rfl, b1⟩
      have TC := Lib.hid (fun (k : Nat) (hk : k < L.length) => show ∃ a, s1 = some a ∧ ∀ W, Below w1.heap.size w1 W → W.cell? (a.add k) = some (.string (bs (T k))) by rw [HT.out]; exact text_cell HSL.out b1 hk)
      have IC := Lib.hid (fun (k : Nat) (hk : k < a2.length) => int_cell HSP.out b1 hk)
      have B1 := Lib.hid b1
      clear b1
      go_wp2_with fail
      refine (NS.out _).mono ?_
      rintro e w2 ⟨sb, rfl, hsnd, b2⟩
      go_wp2_with fail
      refine (NR.out _).mono ?_
      rintro e w3 ⟨rb, mb, rfl, hrcv, b3, q1, q2⟩
      have W3 := Lib.hid (WinS.begin hsnd b2 hrcv b3 q1 q2)
      clear hsnd b2 hrcv b3 q1 q2
      go_wp2_with fail
      go_loopw [11, 10, 12, 13] (fun i net _ _ wr => ∃ (k : Nat) (F : Nat → Prop), i = .int .i64 k ∧ k ≤ L.length ∧ (∀ j, j < k → (T j).length ≤ 60) ∧ WinS w1 wr F sb rb mb k (numI st k) ((List.range k).map (pkI st T)) (numI st 0) [] ∧ wr.ownsRow w1.heap.size 44 2 net k (kcells ((List.range k).map (pkI st T))) ∧ ∀ x, net.ownBlock = some x → ¬ F x) (fun i _ _ _ _ => L.length - (intOf i).toNat)
      case atStart => exact ⟨0, _, rfl, by omega, fun j hj => by omega, by rw [N0.out]; exact W3.out, World.ownsRow_nil _ _ _ _, by simp [Value.ownBlock]⟩
      case round =>
        obtain ⟨k, F, rfl, hk, hTl, WR, hown, hnF⟩ := hrel
        have HW := Lib.hid WR
        have HOW := Lib.hid hown
        have HTL := Lib.hid hTl
        have HNF := Lib.hid hnF
        clear WR hTl hnF
        by_cases hlt : k < L.length
        · have hltI : (k : Int) < L.length := by omega
          obtain ⟨ad, rfl, CT⟩ := TC.out k hlt
          have CT := Lib.hid CT
          have x1 : (0 : Int) ≤ k := by omega
          have x2 : (k : Int).toNat = k := by omega
          have c0 := CT.out _ HW.out.bel
          have hsz : (bs (T k)).size = (T k).length := bs_size _
          have HSK := Lib.hid (show (T k).length ≤ maxLen by rw [HT.out]; show (L.getD k []).length ≤ _; rw [getD_at hlt]; exact HSM.out _ (List.getElem_mem _))
          by_cases hbig : 60 < (T k).length
          · have hbI : (60 : Int) < (bs (T k)).size := by omega
            generalize bs (T k) = X at *
            go_wp2_with fail
            go_ret
            exact ⟨rfl, below_trans' B1.out HW.out.bel⟩
          · have hbI : ¬ (60 : Int) < (bs (T k)).size := by omega
            have KK := Lib.hid (show k + 1 ≤ L.length by omega)
            have PU := Lib.hid (on_push E HW.out (by omega) (by omega) (by omega) (HB.out.below B1.out) (HF.out.below B1.out))
            have HX := Lib.hid (show ∀ j, j < k + 1 → (T j).length ≤ 60 from fun j hj => by
              by_cases e : j = k
              · subst e; omega
              · exact HTL.out j (by omega))
            obtain ⟨va, vc, rfl⟩ := owns_slice hown
            have HN1 : Hid (k + 1 ≤ maxLen) := by show _ ≤ _; unfold maxLen; omega
            have HN2 : Hid ((k + 1) * 24 ≤ 140737488355328) := by show _ ≤ _; omega
            have RP := Lib.hid (show kcells ((List.range k).map (pkI st T)) ++ [.int .i64 (numI st k), .string (bs (T k))] = kcells ((List.range (k + 1)).map (pkI st T)) by rw [← range_pk, kcells_append, kcells_one])
            clear hown
            go_wp2_with fail
            refine PU.out.mono ?_
            rintro e w4 ⟨rfl, F4, W4, L4⟩
            have c4 := CT.out _ W4.bel
            have HO4 := Lib.hid (own_later HOW.out L4 HNF.out)
            have H4 := Lib.hid W4
            have HNF4 := Lib.hid (fun x (hx : (Value.slice va k vc).ownBlock = some x) (hf : F4 x) => by
              rcases L4.2 x hf with h | h
              · exact HNF.out x hx h
              · have := (HOW.out.lt x hx).2; omega : ∀ x, (Value.slice va k vc).ownBlock = some x → ¬ F4 x)
            have HN3 := Lib.hid (fun (o : Obj) => show w1.heap.size ≤ (w4.alloc o).heap.size by have := H4.out.bel.size; simp; omega)
            clear W4 L4 c0
            go_wp2_with (at_builtin; refine wpList_append_own_at _ rfl _ _ 42 rfl w1.heap.size 44 i0 _ 2 24 Tryd.underlying42 hi hz0 hz1 hz2 rfl (by decide) _ _ _ rfl (HO4.out.alloc _) ⟨w4.heap.size, 0, none⟩ 1 1 [.int .i64 (numI st k), .string (bs (T k))] rfl rfl (two_newsK (heap_alloc_new _ _)) (fun u hu => by simp at hu; rcases hu with rfl | rfl <;> rfl) HN1.out HN2.out (HN3.out _) ?_; intro v' w5 hown5 hgrow _ hat; have HO5 := Lib.hid hown5; have HG5 := Lib.hid hgrow; have HA5 := Lib.hid hat; clear hown5 hgrow hat)
            go_roundw
            case rel =>
              refine ⟨k + 1, F4, by go_num, KK.out, HX.out, (H4.out.below (wb_alloc w4 _)).row HG5.out (fun x hx => ⟨HNF4.out x hx, (HO4.out.lt x hx).1⟩), by rw [← RP.out]; exact HO5.out, fun x hx hf => ?_⟩
              rcases HA5.out with ha | ha
              · rw [ha] at hx; exact HNF4.out x hx hf
              · rw [ha] at hx; cases hx; have h9 := (H4.out.lo _ hf).2; revert h9; simp; try omega
            case measure => simp [intOf]; omega
        · have hltI : ¬ (k : Int) < L.length := by omega
          obtain rfl : k = L.length := by omega
          have S0 := Lib.hid (OnS.begin HW.out HOW.out HNF.out)
          have HT60 := Lib.hid HTL.out
          clear HW HOW HNF hown HTL
          go_wp2_with fail
          go_loopw [15, 10, 14] (fun i net told wr => ∃ (k : Nat) (F : Nat → Prop) (ps : List PK) (d : Nat) (js : List Nat), i = .int .i64 k ∧ k ≤ a2.length ∧ ps.length ≤ L.length + k ∧ OnS w1 wr F sb rb mb L.length (L.length + k) st T net ps told d d js js) (fun i _ _ _ => a2.length - (intOf i).toNat)
          case atStart => exact ⟨0, _, _, 0, _, rfl, by omega, by simp, S0.out⟩
          case round =>
            clear S0
            obtain ⟨k, F, ps, d, js, rfl, hk, hps, S⟩ := hrel
            have HS := Lib.hid S
            have HPS := Lib.hid hps
            clear S hps
            by_cases hlt : k < a2.length
            · have hltI : (k : Int) < a2.length := by omega
              obtain ⟨ae, rfl, CI⟩ := IC.out k hlt
              have hv := HIN.out a2[k] (List.getElem_mem _)
              have KK := Lib.hid (show k + 1 ≤ a2.length by omega)
              have x1 : (0 : Int) ≤ k := by omega
              have x2 : (k : Int).toNat = k := by omega
              have c0 := CI _ HS.out.bel
              generalize a2[k] = v at hv c0
              clear CI
              by_cases hneg : v < 0
              · go_wp2_with fail
                go_roundw
                case rel => exact ⟨k + 1, F, ps, d, js, by go_num, KK.out, by have := HPS.out; omega, HS.out.more (by omega)⟩
                case measure => simp [intOf]; omega
              · obtain ⟨n, rfl⟩ : ∃ n : Nat, v = n := ⟨v.toNat, by omega⟩
                obtain ⟨q, hq⟩ : ∃ q : Nat, (n : Int) / 4 = q := ⟨n / 4, by omega⟩
                have hn0 : (0 : Int) ≤ n := by omega
                rcases (show (n : Int) % 4 = 0 ∨ (n : Int) % 4 = 1 ∨ (n : Int) % 4 = 2 ∨ (n : Int) % 4 = 3 by omega) with e4 | e4 | e4 | e4
                · by_cases hpe : ps.length = 0
                  · obtain ⟨vn, vnc, hvn⟩ := owns_slice HS.out.netO
                    subst hvn
                    rw [hpe] at *
                    go_wp2_with fail
                    go_roundw
                    case rel => exact ⟨k + 1, F, ps, d, js, by go_num, KK.out, by have := HPS.out; omega, HS.out.more (by omega)⟩
                    case measure => simp [intOf]; omega
                  · have hpp : 0 < ps.length := by omega
                    have hppI : (0 : Int) < ps.length := by omega
                    have hpne : ((ps.length : Int) == 0) = false := by rw [beq_eq_false_iff_ne]; omega
                    obtain ⟨m, hm⟩ : ∃ m : Nat, (q : Int) % (ps.length : Int) = m := ⟨q % ps.length, by simp⟩
                    have hml : m < ps.length := by have h9 := Int.emod_lt_of_pos (q : Int) hppI; rw [hm] at h9; omega
                    have hmI : (m : Int) < ps.length := by omega
                    have hmI2 : (m : Int) ≤ ps.length := by omega
                    have hmI3 : (m : Int) + 1 ≤ ps.length := by omega
                    obtain ⟨g6, c6, hv6, _, hg6s, hcp, hcm, hcell6, _⟩ := owns_open HS.out.netO hpp
                    subst hv6
                    unfold maxLen at hcm
                    have y1 : (0 : Int) ≤ m := by omega
                    have y2 : (m : Int).toNat = m := by omega
                    have y3 : (0 : Int) ≤ (m : Int) + 1 := by omega
                    have y4 : ((m : Int) + 1).toNat = m + 1 := by omega
                    obtain ⟨i, hiN, hpi⟩ := HS.out.netok ps[m] (List.getElem_mem _)
                    obtain ⟨g2, g3⟩ := kcells_get ps m hml
                    have d6 := hcell6 _ _ g2
                    have d7 := hcell6 _ _ g3
                    rw [hpi, pk_n] at d6
                    rw [hpi, pk_d] at d7
                    obtain ⟨ad, hs1, CT⟩ := TC.out i hiN
                    have HTi := Lib.hid (HT60.out i hiN)
                    have HNN := Lib.hid hiN
                    have HPI := Lib.hid hpi
                    have hle4 := HS.out.le
                    clear g2 g3 hcell6 CT hiN hpi
                    subst hs1
                    have hc1a : L.length ≤ c1 := hn1
                    have NETO := Lib.hid HS.out.netO
                    have HN1 : Hid (0 + m ≤ maxLen) := by show _ ≤ _; unfold maxLen; omega
                    have HN2 : Hid ((0 + m) * 24 ≤ 140737488355328) := by show _ ≤ _; have := HPS.out; omega
                    have HN1b : Hid (m + (ps.length - (m + 1)) ≤ maxLen) := by show _ ≤ _; unfold maxLen; omega
                    have HN2b : Hid ((m + (ps.length - (m + 1))) * 24 ≤ 140737488355328) := by show _ ≤ _; have := HPS.out; omega
                    have SRC1 := Lib.hid (fun (W : World) (hb : Below wr.heap.size wr W) => net_head (W := W) NETO.out hb (Nat.le_of_lt hml))
                    have SRC2 := Lib.hid (fun (W : World) (hb : Below wr.heap.size wr W) => net_tail (W := W) NETO.out hb hml)
                    have LEN1 := Lib.hid (show (kcells (ps.take m)).length = m * 2 by rw [kcells_len, List.length_take]; omega)
                    have LEN2 := Lib.hid (show (kcells (ps.drop (m + 1))).length = (ps.length - (m + 1)) * 2 by rw [kcells_len, List.length_drop])
                    have BA := Lib.hid (wb_alloc wr (.cells #[.int .i64 (numI st i), .string (bs (T i))] 44))
                    have HN1z : Hid (m + 0 ≤ maxLen) := by show _ ≤ _; unfold maxLen; omega
                    have HN2z : Hid ((m + 0) * 24 ≤ 140737488355328) := by show _ ≤ _; have := HPS.out; omega
                    have AC := Lib.hid (show (wr.alloc (.cells #[.int .i64 (numI st i), .string (bs (T i))] 44)).cell? ⟨wr.heap.size, 0, none⟩ = some (.int .i64 (numI st i)) ∧ (wr.alloc (.cells #[.int .i64 (numI st i), .string (bs (T i))] 44)).cell? ⟨wr.heap.size, 1, none⟩ = some (.string (bs (T i))) from ⟨by simp, by simp⟩)
                    have hcap1 : m + 1 ≤ c6 := by omega
                    have hbw := HS.out.bel.size
                    by_cases hcap : c6 = m + 1
                    · subst hcap
                      go_wp2_with (first | (at_builtin; refine wpList_append_is rfl (.tmp 148) (.tmp 151) 42 rfl (wr.alloc (.cells #[.int .i64 (numI st i), .string (bs (T i))] 44)).heap.size 44 i0 _ 2 24 Tryd.underlying42 hi hz0 hz1 hz2 rfl (by decide) _ 0 [] rfl (World.ownsRow_nil _ _ _ _) _ m _ rfl (SRC1.out _ BA.out) LEN1.out (kcells_one' _) HN1.out HN2.out (Nat.le_refl _) ?_; intro v8 w8 hown8 hgrow8 hat8; have HO8 := Lib.hid (own_zero hown8); have B8A := Lib.hid (grown_none_below hgrow8); have B8 := Lib.hid (below_trans' BA.out B8A.out); obtain ⟨va8, vc8, rfl⟩ := owns_slice HO8.out; clear hown8 hgrow8 hat8) | (at_builtin; refine wpList_append_is rfl (.tmp 153) (.tmp 157) 42 rfl (wr.alloc (.cells #[.int .i64 (numI st i), .string (bs (T i))] 44)).heap.size 44 i0 _ 2 24 Tryd.underlying42 hi hz0 hz1 hz2 rfl (by decide) (.slice va8 m vc8) m _ rfl HO8.out _ 0 _ rfl net_zero rfl (by simp) HN1z.out HN2z.out B8A.out.size ?_; intro v9 w9 hown9 hgrow9 hat9; have HO9 := Lib.hid (del_own0 hml hcp hown9); have B9A := Lib.hid (below_own B8A.out HO8.out hgrow9); have B9 := Lib.hid (below_trans' BA.out B9A.out); have p0 := (B9A.out.cell (p := ⟨wr.heap.size, 0, none⟩) (by simp)).trans (AC.out.1); have p1 := (B9A.out.cell (p := ⟨wr.heap.size, 1, none⟩) (by simp)).trans (AC.out.2); clear hown9 hgrow9 hat9))
                      have SD := Lib.hid (HS.out.net_to (below_grown_any B9.out _) (owns_mono' HO9.out (Nat.le_trans hbw BA.out.size)) (fun p hp => HS.out.netok p (del_mem hp)) (.inr (fun x hx => Nat.le_trans BA.out.size (HO9.out.lt x hx).1)))
                      have TK := Lib.hid (on_take SD.out HNN.out (by unfold maxLen; have := HTi.out; omega) hlen (by omega))
                      refine TK.out.mono ?_
                      rintro e w10 ⟨r10, d2, rfl, hdd, hr10, S10, _⟩
                      have HS10 := Lib.hid S10
                      have hd2 := S10.le
                      have HR10 := Lib.hid hr10
                      have HM1 : Hid (d + (d2 - d) ≤ maxLen) := by show _ ≤ _; unfold maxLen; omega
                      have HM2 : Hid ((d + (d2 - d)) * 16 ≤ 140737488355328) := by show _ ≤ _; omega
                      have LEN3 := Lib.hid (show ((((List.range d2).drop d).map T).map fun x => Value.string (bs x)).length = (d2 - d) * 1 by simp)
                      have ONE3 := Lib.hid (strs_one (((List.range d2).drop d).map T))
                      clear S10 hr10 TK
                      obtain ⟨s10, n10, c10, rfl, _⟩ := HR10.out.get
                      go_wp2_with (at_builtin; refine wpList_append_is rfl (.tmp 162) (.tmp 168) 22 rfl w1.heap.size 9 j0 _ 1 16 Tryd.underlying22 hj hy0 hy1 hy2 rfl (by decide) _ d _ rfl HS10.out.toldO _ (d2 - d) _ rfl HR10.out LEN3.out ONE3.out HM1.out HM2.out HS10.out.bel.size ?_; intro v11 w11 hown11 hgrow11 hat11; have HO11 := Lib.hid (told_own hdd hown11); have S11 := Lib.hid ((HS10.out.told_to hgrow11 HO11.out hat11).js_more (fun x hx => (List.mem_filter.1 hx).1)); obtain ⟨va11, vc11, rfl⟩ := owns_slice HO11.out; clear hown11 hgrow11 hat11)
                      have SM := sameTexts_is (.slice va11 d2 vc11) (.slice (some ad) d2 c1) ((List.range d2).map T) (L.take d2) _ (SliceIs.owned HO11.out) (text_prefix (HSL.out.below (below_trans' B1.out S11.out.bel)) hd2)
                      rw [show ((List.range d2).map T == L.take d2) = true by rw [HT.out, take_T hd2]; simp] at SM
                      have HSMM := Lib.hid SM
                      clear SM
                      refine HSMM.out.mono ?_
                      rintro e w12 ⟨rfl, nq, rfl⟩
                      go_wp2_with fail
                      go_roundw
                      case rel => exact ⟨k + 1, F, _, d2, js, by go_num, KK.out, by have := HPS.out; simp; omega, (S11.out.below ((Drew.drewN _ nq).below _)).more (by omega)⟩
                      case measure => simp [intOf]; omega
                    · have hcap2 : c6 - (m + 1) ≠ 0 := by omega
                      go_wp2_with (first | (at_builtin; refine wpList_append_is rfl (.tmp 148) (.tmp 151) 42 rfl (wr.alloc (.cells #[.int .i64 (numI st i), .string (bs (T i))] 44)).heap.size 44 i0 _ 2 24 Tryd.underlying42 hi hz0 hz1 hz2 rfl (by decide) _ 0 [] rfl (World.ownsRow_nil _ _ _ _) _ m _ rfl (SRC1.out _ BA.out) LEN1.out (kcells_one' _) HN1.out HN2.out (Nat.le_refl _) ?_; intro v8 w8 hown8 hgrow8 hat8; have HO8 := Lib.hid (own_zero hown8); have B8A := Lib.hid (grown_none_below hgrow8); have B8 := Lib.hid (below_trans' BA.out B8A.out); obtain ⟨va8, vc8, rfl⟩ := owns_slice HO8.out; clear hown8 hgrow8 hat8) | (at_builtin; refine wpList_append_is rfl (.tmp 153) (.tmp 157) 42 rfl (wr.alloc (.cells #[.int .i64 (numI st i), .string (bs (T i))] 44)).heap.size 44 i0 _ 2 24 Tryd.underlying42 hi hz0 hz1 hz2 rfl (by decide) (.slice va8 m vc8) m _ rfl HO8.out _ (ps.length - (m + 1)) _ rfl (SRC2.out _ B8.out _ (fun _ => rfl)) LEN2.out (kcells_one' _) HN1b.out HN2b.out B8A.out.size ?_; intro v9 w9 hown9 hgrow9 hat9; have HO9 := Lib.hid (del_own hml hown9); have B9A := Lib.hid (below_own B8A.out HO8.out hgrow9); have B9 := Lib.hid (below_trans' BA.out B9A.out); have p0 := (B9A.out.cell (p := ⟨wr.heap.size, 0, none⟩) (by simp)).trans (AC.out.1); have p1 := (B9A.out.cell (p := ⟨wr.heap.size, 1, none⟩) (by simp)).trans (AC.out.2); clear hown9 hgrow9 hat9))
                      have SD := Lib.hid (HS.out.net_to (below_grown_any B9.out _) (owns_mono' HO9.out (Nat.le_trans hbw BA.out.size)) (fun p hp => HS.out.netok p (del_mem hp)) (.inr (fun x hx => Nat.le_trans BA.out.size (HO9.out.lt x hx).1)))
                      have TK := Lib.hid (on_take SD.out HNN.out (by unfold maxLen; have := HTi.out; omega) hlen (by omega))
                      refine TK.out.mono ?_
                      rintro e w10 ⟨r10, d2, rfl, hdd, hr10, S10, _⟩
                      have HS10 := Lib.hid S10
                      have hd2 := S10.le
                      have HR10 := Lib.hid hr10
                      have HM1 : Hid (d + (d2 - d) ≤ maxLen) := by show _ ≤ _; unfold maxLen; omega
                      have HM2 : Hid ((d + (d2 - d)) * 16 ≤ 140737488355328) := by show _ ≤ _; omega
                      have LEN3 := Lib.hid (show ((((List.range d2).drop d).map T).map fun x => Value.string (bs x)).length = (d2 - d) * 1 by simp)
                      have ONE3 := Lib.hid (strs_one (((List.range d2).drop d).map T))
                      clear S10 hr10 TK
                      obtain ⟨s10, n10, c10, rfl, _⟩ := HR10.out.get
                      go_wp2_with (at_builtin; refine wpList_append_is rfl (.tmp 162) (.tmp 168) 22 rfl w1.heap.size 9 j0 _ 1 16 Tryd.underlying22 hj hy0 hy1 hy2 rfl (by decide) _ d _ rfl HS10.out.toldO _ (d2 - d) _ rfl HR10.out LEN3.out ONE3.out HM1.out HM2.out HS10.out.bel.size ?_; intro v11 w11 hown11 hgrow11 hat11; have HO11 := Lib.hid (told_own hdd hown11); have S11 := Lib.hid ((HS10.out.told_to hgrow11 HO11.out hat11).js_more (fun x hx => (List.mem_filter.1 hx).1)); obtain ⟨va11, vc11, rfl⟩ := owns_slice HO11.out; clear hown11 hgrow11 hat11)
                      have SM := sameTexts_is (.slice va11 d2 vc11) (.slice (some ad) d2 c1) ((List.range d2).map T) (L.take d2) _ (SliceIs.owned HO11.out) (text_prefix (HSL.out.below (below_trans' B1.out S11.out.bel)) hd2)
                      rw [show ((List.range d2).map T == L.take d2) = true by rw [HT.out, take_T hd2]; simp] at SM
                      have HSMM := Lib.hid SM
                      clear SM
                      refine HSMM.out.mono ?_
                      rintro e w12 ⟨rfl, nq, rfl⟩
                      go_wp2_with fail
                      go_roundw
                      case rel => exact ⟨k + 1, F, _, d2, js, by go_num, KK.out, by have := HPS.out; simp; omega, (S11.out.below ((Drew.drewN _ nq).below _)).more (by omega)⟩
                      case measure => simp [intOf]; omega
                · by_cases hpe : ps.length = 0
                  · obtain ⟨vn, vnc, hvn⟩ := owns_slice HS.out.netO
                    subst hvn
                    rw [hpe] at *
                    go_wp2_with fail
                    go_roundw
                    case rel => exact ⟨k + 1, F, ps, d, js, by go_num, KK.out, by have := HPS.out; omega, HS.out.more (by omega)⟩
                    case measure => simp [intOf]; omega
                  · have hpp : 0 < ps.length := by omega
                    have hppI : (0 : Int) < ps.length := by omega
                    have hpne : ((ps.length : Int) == 0) = false := by rw [beq_eq_false_iff_ne]; omega
                    obtain ⟨m, hm⟩ : ∃ m : Nat, (q : Int) % (ps.length : Int) = m := ⟨q % ps.length, by simp⟩
                    have hml : m < ps.length := by have h9 := Int.emod_lt_of_pos (q : Int) hppI; rw [hm] at h9; omega
                    have hmI : (m : Int) < ps.length := by omega
                    have hmI2 : (m : Int) ≤ ps.length := by omega
                    have hmI3 : (m : Int) + 1 ≤ ps.length := by omega
                    obtain ⟨g6, c6, hv6, _, hg6s, hcp, hcm, hcell6, _⟩ := owns_open HS.out.netO hpp
                    subst hv6
                    unfold maxLen at hcm
                    have y1 : (0 : Int) ≤ m := by omega
                    have y2 : (m : Int).toNat = m := by omega
                    have y3 : (0 : Int) ≤ (m : Int) + 1 := by omega
                    have y4 : ((m : Int) + 1).toNat = m + 1 := by omega
                    obtain ⟨i, hiN, hpi⟩ := HS.out.netok ps[m] (List.getElem_mem _)
                    obtain ⟨g2, g3⟩ := kcells_get ps m hml
                    have d6 := hcell6 _ _ g2
                    have d7 := hcell6 _ _ g3
                    rw [hpi, pk_n] at d6
                    rw [hpi, pk_d] at d7
                    obtain ⟨ad, hs1, CT⟩ := TC.out i hiN
                    have HTi := Lib.hid (HT60.out i hiN)
                    have HNN := Lib.hid hiN
                    have HPI := Lib.hid hpi
                    have hle4 := HS.out.le
                    clear g2 g3 hcell6 CT hiN hpi
                    subst hs1
                    have NETO := Lib.hid HS.out.netO
                    have HN1 : Hid (0 + m ≤ maxLen) := by show _ ≤ _; unfold maxLen; omega
                    have HN2 : Hid ((0 + m) * 24 ≤ 140737488355328) := by show _ ≤ _; have := HPS.out; omega
                    have HN1b : Hid (m + (ps.length - (m + 1)) ≤ maxLen) := by show _ ≤ _; unfold maxLen; omega
                    have HN2b : Hid ((m + (ps.length - (m + 1))) * 24 ≤ 140737488355328) := by show _ ≤ _; have := HPS.out; omega
                    have SRC1 := Lib.hid (fun (W : World) (hb : Below wr.heap.size wr W) => net_head (W := W) NETO.out hb (Nat.le_of_lt hml))
                    have SRC2 := Lib.hid (fun (W : World) (hb : Below wr.heap.size wr W) => net_tail (W := W) NETO.out hb hml)
                    have LEN1 := Lib.hid (show (kcells (ps.take m)).length = m * 2 by rw [kcells_len, List.length_take]; omega)
                    have LEN2 := Lib.hid (show (kcells (ps.drop (m + 1))).length = (ps.length - (m + 1)) * 2 by rw [kcells_len, List.length_drop])
                    have BA := Lib.hid (wb_alloc wr (.cells #[.int .i64 (numI st i), .string (bs (T i))] 44))
                    have HN1z : Hid (m + 0 ≤ maxLen) := by show _ ≤ _; unfold maxLen; omega
                    have HN2z : Hid ((m + 0) * 24 ≤ 140737488355328) := by show _ ≤ _; have := HPS.out; omega
                    have AC := Lib.hid (show (wr.alloc (.cells #[.int .i64 (numI st i), .string (bs (T i))] 44)).cell? ⟨wr.heap.size, 0, none⟩ = some (.int .i64 (numI st i)) ∧ (wr.alloc (.cells #[.int .i64 (numI st i), .string (bs (T i))] 44)).cell? ⟨wr.heap.size, 1, none⟩ = some (.string (bs (T i))) from ⟨by simp, by simp⟩)
                    have hcap1 : m + 1 ≤ c6 := by omega
                    have hbw := HS.out.bel.size
                    by_cases hcap : c6 = m + 1
                    · subst hcap
                      go_wp2_with (first | (at_builtin; refine wpList_append_is rfl (.tmp 148) (.tmp 151) 42 rfl (wr.alloc (.cells #[.int .i64 (numI st i), .string (bs (T i))] 44)).heap.size 44 i0 _ 2 24 Tryd.underlying42 hi hz0 hz1 hz2 rfl (by decide) _ 0 [] rfl (World.ownsRow_nil _ _ _ _) _ m _ rfl (SRC1.out _ BA.out) LEN1.out (kcells_one' _) HN1.out HN2.out (Nat.le_refl _) ?_; intro v8 w8 hown8 hgrow8 hat8; have HO8 := Lib.hid (own_zero hown8); have B8A := Lib.hid (grown_none_below hgrow8); have B8 := Lib.hid (below_trans' BA.out B8A.out); obtain ⟨va8, vc8, rfl⟩ := owns_slice HO8.out; clear hown8 hgrow8 hat8) | (at_builtin; refine wpList_append_is rfl (.tmp 153) (.tmp 157) 42 rfl (wr.alloc (.cells #[.int .i64 (numI st i), .string (bs (T i))] 44)).heap.size 44 i0 _ 2 24 Tryd.underlying42 hi hz0 hz1 hz2 rfl (by decide) (.slice va8 m vc8) m _ rfl HO8.out _ 0 _ rfl net_zero rfl (by simp) HN1z.out HN2z.out B8A.out.size ?_; intro v9 w9 hown9 hgrow9 hat9; have HO9 := Lib.hid (del_own0 hml hcp hown9); have B9A := Lib.hid (below_own B8A.out HO8.out hgrow9); have B9 := Lib.hid (below_trans' BA.out B9A.out); have p0 := (B9A.out.cell (p := ⟨wr.heap.size, 0, none⟩) (by simp)).trans (AC.out.1); have p1 := (B9A.out.cell (p := ⟨wr.heap.size, 1, none⟩) (by simp)).trans (AC.out.2); clear hown9 hgrow9 hat9))
                      have SD := Lib.hid (HS.out.net_to (below_grown_any B9.out _) (owns_mono' HO9.out (Nat.le_trans hbw BA.out.size)) (fun p hp => HS.out.netok p (del_mem hp)) (.inr (fun x hx => Nat.le_trans BA.out.size (HO9.out.lt x hx).1)))
                      go_roundw
                      case rel => exact ⟨k + 1, F, _, d, js, by go_num, KK.out, by have := HPS.out; simp; omega, SD.out.more (by omega)⟩
                      case measure => simp [intOf]; omega
                    · have hcap2 : c6 - (m + 1) ≠ 0 := by omega
                      go_wp2_with (first | (at_builtin; refine wpList_append_is rfl (.tmp 148) (.tmp 151) 42 rfl (wr.alloc (.cells #[.int .i64 (numI st i), .string (bs (T i))] 44)).heap.size 44 i0 _ 2 24 Tryd.underlying42 hi hz0 hz1 hz2 rfl (by decide) _ 0 [] rfl (World.ownsRow_nil _ _ _ _) _ m _ rfl (SRC1.out _ BA.out) LEN1.out (kcells_one' _) HN1.out HN2.out (Nat.le_refl _) ?_; intro v8 w8 hown8 hgrow8 hat8; have HO8 := Lib.hid (own_zero hown8); have B8A := Lib.hid (grown_none_below hgrow8); have B8 := Lib.hid (below_trans' BA.out B8A.out); obtain ⟨va8, vc8, rfl⟩ := owns_slice HO8.out; clear hown8 hgrow8 hat8) | (at_builtin; refine wpList_append_is rfl (.tmp 153) (.tmp 157) 42 rfl (wr.alloc (.cells #[.int .i64 (numI st i), .string (bs (T i))] 44)).heap.size 44 i0 _ 2 24 Tryd.underlying42 hi hz0 hz1 hz2 rfl (by decide) (.slice va8 m vc8) m _ rfl HO8.out _ (ps.length - (m + 1)) _ rfl (SRC2.out _ B8.out _ (fun _ => rfl)) LEN2.out (kcells_one' _) HN1b.out HN2b.out B8A.out.size ?_; intro v9 w9 hown9 hgrow9 hat9; have HO9 := Lib.hid (del_own hml hown9); have B9A := Lib.hid (below_own B8A.out HO8.out hgrow9); have B9 := Lib.hid (below_trans' BA.out B9A.out); have p0 := (B9A.out.cell (p := ⟨wr.heap.size, 0, none⟩) (by simp)).trans (AC.out.1); have p1 := (B9A.out.cell (p := ⟨wr.heap.size, 1, none⟩) (by simp)).trans (AC.out.2); clear hown9 hgrow9 hat9))
                      have SD := Lib.hid (HS.out.net_to (below_grown_any B9.out _) (owns_mono' HO9.out (Nat.le_trans hbw BA.out.size)) (fun p hp => HS.out.netok p (del_mem hp)) (.inr (fun x hx => Nat.le_trans BA.out.size (HO9.out.lt x hx).1)))
                      go_roundw
                      case rel => exact ⟨k + 1, F, _, d, js, by go_num, KK.out, by have := HPS.out; simp; omega, SD.out.more (by omega)⟩
                      case measure => simp [intOf]; omega
                · by_cases hpe : ps.length = 0
                  · obtain ⟨vn, vnc, hvn⟩ := owns_slice HS.out.netO
                    subst hvn
                    rw [hpe] at *
                    go_wp2_with fail
                    go_roundw
                    case rel => exact ⟨k + 1, F, ps, d, js, by go_num, KK.out, by have := HPS.out; omega, HS.out.more (by omega)⟩
                    case measure => simp [intOf]; omega
                  · have hpp : 0 < ps.length := by omega
                    have hppI : (0 : Int) < ps.length := by omega
                    have hpne : ((ps.length : Int) == 0) = false := by rw [beq_eq_false_iff_ne]; omega
                    obtain ⟨m, hm⟩ : ∃ m : Nat, (q : Int) % (ps.length : Int) = m := ⟨q % ps.length, by simp⟩
                    have hml : m < ps.length := by have h9 := Int.emod_lt_of_pos (q : Int) hppI; rw [hm] at h9; omega
                    have hmI : (m : Int) < ps.length := by omega
                    have hmI2 : (m : Int) ≤ ps.length := by omega
                    have hmI3 : (m : Int) + 1 ≤ ps.length := by omega
                    obtain ⟨g6, c6, hv6, _, hg6s, hcp, hcm, hcell6, _⟩ := owns_open HS.out.netO hpp
                    subst hv6
                    unfold maxLen at hcm
                    have y1 : (0 : Int) ≤ m := by omega
                    have y2 : (m : Int).toNat = m := by omega
                    have y3 : (0 : Int) ≤ (m : Int) + 1 := by omega
                    have y4 : ((m : Int) + 1).toNat = m + 1 := by omega
                    obtain ⟨i, hiN, hpi⟩ := HS.out.netok ps[m] (List.getElem_mem _)
                    obtain ⟨g2, g3⟩ := kcells_get ps m hml
                    have d6 := hcell6 _ _ g2
                    have d7 := hcell6 _ _ g3
                    rw [hpi, pk_n] at d6
                    rw [hpi, pk_d] at d7
                    obtain ⟨ad, hs1, CT⟩ := TC.out i hiN
                    have HTi := Lib.hid (HT60.out i hiN)
                    have HNN := Lib.hid hiN
                    have HPI := Lib.hid hpi
                    have hle4 := HS.out.le
                    clear g2 g3 hcell6 CT hiN hpi
                    subst hs1
                    have hc1a : L.length ≤ c1 := hn1
                    have BA := Lib.hid (wb_alloc wr (.cells #[.int .i64 (numI st i), .string (bs (T i))] 44))
                    go_wp2_with fail
                    have TK := Lib.hid (on_take (HS.out.below BA.out) HNN.out (by unfold maxLen; have := HTi.out; omega) hlen (by omega))
                    refine TK.out.mono ?_
                    rintro e w10 ⟨r10, d2, rfl, hdd, hr10, S10, _⟩
                    have HS10 := Lib.hid S10
                    have hd2 := S10.le
                    have HR10 := Lib.hid hr10
                    have HM1 : Hid (d + (d2 - d) ≤ maxLen) := by show _ ≤ _; unfold maxLen; omega
                    have HM2 : Hid ((d + (d2 - d)) * 16 ≤ 140737488355328) := by show _ ≤ _; omega
                    have LEN3 := Lib.hid (show ((((List.range d2).drop d).map T).map fun x => Value.string (bs x)).length = (d2 - d) * 1 by simp)
                    have ONE3 := Lib.hid (strs_one (((List.range d2).drop d).map T))
                    clear S10 hr10 TK
                    obtain ⟨s10, n10, c10, rfl, _⟩ := HR10.out.get
                    go_wp2_with (at_builtin; refine wpList_append_is rfl (.tmp 162) (.tmp 168) 22 rfl w1.heap.size 9 j0 _ 1 16 Tryd.underlying22 hj hy0 hy1 hy2 rfl (by decide) _ d _ rfl HS10.out.toldO _ (d2 - d) _ rfl HR10.out LEN3.out ONE3.out HM1.out HM2.out HS10.out.bel.size ?_; intro v11 w11 hown11 hgrow11 hat11; have HO11 := Lib.hid (told_own hdd hown11); have S11 := Lib.hid ((HS10.out.told_to hgrow11 HO11.out hat11).js_more (fun x hx => (List.mem_filter.1 hx).1)); obtain ⟨va11, vc11, rfl⟩ := owns_slice HO11.out; clear hown11 hgrow11 hat11)
                    have SM := sameTexts_is (.slice va11 d2 vc11) (.slice (some ad) d2 c1) ((List.range d2).map T) (L.take d2) _ (SliceIs.owned HO11.out) (text_prefix (HSL.out.below (below_trans' B1.out S11.out.bel)) hd2)
                    rw [show ((List.range d2).map T == L.take d2) = true by rw [HT.out, take_T hd2]; simp] at SM
                    have HSMM := Lib.hid SM
                    clear SM
                    refine HSMM.out.mono ?_
                    rintro e w12 ⟨rfl, nq, rfl⟩
                    go_wp2_with fail
                    go_roundw
                    case rel => exact ⟨k + 1, F, _, d2, js, by go_num, KK.out, by have := HPS.out; omega, (S11.out.below ((Drew.drewN _ nq).below _)).more (by omega)⟩
                    case measure => simp [intOf]; omega
                · have AK := Lib.hid (on_ack HS.out)
                  go_wp2_with fail
                  refine AK.out.mono ?_
                  rintro e w4 ⟨mv, rfl, S4, A4⟩
                  have SK := Lib.hid (on_stake S4 A4 (fun _ h => h) hlen (by omega))
                  clear S4 A4 AK
                  go_wp2_with fail
                  refine SK.out.mono ?_
                  rintro e w5 ⟨z5, F5, js5, rfl, S5, _⟩
                  have KP := Lib.hid (on_kept S5 (by omega))
                  clear S5 SK
                  go_wp2_with fail
                  refine KP.out.mono ?_
                  rintro e w6 ⟨r6, rfl, hr6, S6, hsz6⟩
                  have HR6 := Lib.hid hr6
                  have HS6 := Lib.hid S6
                  clear S6 KP
                  by_cases hjs : js5.length = 0
                  · have hjs' : js5 = [] := List.eq_nil_of_length_eq_zero hjs
                    obtain ⟨va, vc, rfl⟩ := owns_slice hr6
                    rw [hjs] at *
                    clear hr6
                    go_wp2_with fail
                    go_roundw
                    case rel => exact ⟨k + 1, F5, ps, d, js5, by go_num, KK.out, by have := HPS.out; omega, HS6.out.more (by omega)⟩
                    case measure => simp [intOf]; omega
                  · have hjp : 0 < js5.length := by omega
                    have hjpI : (0 : Int) < js5.length := by omega
                    have hjne : ((js5.length : Int) == 0) = false := by rw [beq_eq_false_iff_ne]; omega
                    obtain ⟨m, hm⟩ : ∃ m : Nat, (q : Int) % (js5.length : Int) = m := ⟨q % js5.length, by simp⟩
                    have hml : m < js5.length := by have h9 := Int.emod_lt_of_pos (q : Int) hjpI; rw [hm] at h9; omega
                    have hmI : (m : Int) < js5.length := by omega
                    obtain ⟨g6, c6, hv6, _, hg6s, _, _, hcell6, _⟩ := owns_open hr6 hjp
                    subst hv6
                    have y1 : (0 : Int) ≤ m := by omega
                    have y2 : (m : Int).toNat = m := by omega
                    have d6 := hcell6 m (.int .i64 (numI st js5[m])) (by rw [List.getElem?_map, List.getElem?_eq_getElem hml]; rfl)
                    have DT := Lib.hid (on_data HS6.out (List.getElem_mem hml) hlen (by omega))
                    have HJ := Lib.hid (HS6.out.jl _ (List.getElem_mem hml))
                    have hne6 : g6 < w6.heap.size := hg6s
                    obtain ⟨vn, vnc, hvn⟩ := owns_slice HS6.out.netO
                    subst hvn
                    generalize js5[m] = j at d6 DT HJ
                    have HN1 : Hid (ps.length + 1 ≤ maxLen) := by show _ ≤ _; unfold maxLen; have := HPS.out; omega
                    have HN2 : Hid ((ps.length + 1) * 24 ≤ 140737488355328) := by show _ ≤ _; have := HPS.out; omega
                    have HJ1 := Lib.hid hjs
                    clear hcell6 hr6 hjs
                    go_wp2_with fail
                    refine DT.out.mono ?_
                    rintro e w7 ⟨rfl, S7, b7⟩
                    have d7 : w7.cell? ⟨g6, m, none⟩ = some (.int .i64 (numI st j)) := (b7.cell (p := ⟨g6, m, none⟩) hne6).trans d6
                    have HS7 := Lib.hid S7
                    have HN3 := Lib.hid (fun (o : Obj) => show w1.heap.size ≤ (w7.alloc o).heap.size by have := HS7.out.bel.size; simp; omega)
                    clear S7 b7 DT
                    go_wp2_with (at_builtin; refine wpList_append_own_at _ rfl _ _ 42 rfl w1.heap.size 44 i0 _ 2 24 Tryd.underlying42 hi hz0 hz1 hz2 rfl (by decide) _ _ _ rfl (HS7.out.netO.alloc _) ⟨w7.heap.size, 0, none⟩ 1 1 [.int .i64 (numI st j), .string (bs (T j))] rfl rfl (two_newsK (heap_alloc_new _ _)) (fun u hu => by simp at hu; rcases hu with rfl | rfl <;> rfl) HN1.out HN2.out (HN3.out _) ?_; intro v' w8 hown8 hgrow _ hat; have HO8 := Lib.hid hown8; have HG8 := Lib.hid hgrow; have HA8 := Lib.hid hat; clear hown8 hgrow hat)
                    go_roundw
                    case rel =>
                      refine ⟨k + 1, F5, ps ++ [pkI st T j], d, js5, by go_num, KK.out, by have := HPS.out; simp; omega, (((HS7.out.below (wb_alloc w7 _)).net_to HG8.out ?_ ?_ ?_).more (by omega))⟩
                      · rw [List.length_append, kcells_append, kcells_one]; exact HO8.out
                      · intro p hp
                        rcases List.mem_append.1 hp with hp | hp
                        · exact HS7.out.netok p hp
                        · simp at hp; exact ⟨j, HJ.out, hp⟩
                      · rcases HA8.out with h | h
                        · exact .inl h
                        · right; intro x hx; rw [h] at hx; cases hx; exact Nat.le_refl _
                    case measure => simp [intOf]; omega
            · have hltI : ¬ (k : Int) < a2.length := by omega
              obtain rfl : k = a2.length := by omega
              have AK := Lib.hid (on_ack HS.out)
              go_wp2_with fail
              refine AK.out.mono ?_
              rintro e w4 ⟨mv, rfl, S4, A4⟩
              have SK := Lib.hid (on_stake S4 A4 (fun _ h => h) hlen (by omega))
              clear S4 A4 AK
              go_wp2_with fail
              refine SK.out.mono ?_
              rintro e w5 ⟨z5, F5, js5, rfl, S5, _⟩
              have HS5 := Lib.hid S5
              have KP := Lib.hid (on_kept S5 (by omega))
              have hjl30 : js5.length ≤ 30 := by have := sorted_le S5.jsrt S5.jl; omega
              clear S5 SK
              go_wp2_with fail
              refine KP.out.mono ?_
              rintro e w6 ⟨r6, rfl, hr6, S6, hsz6⟩
              have HR6 := Lib.hid hr6
              have HS6 := Lib.hid S6
              have A6 := Lib.hid (HS5.out.apart hr6)
              obtain ⟨va6, vc6, rfl⟩ := owns_slice hr6
              clear S6 KP HS hr6 HS5 HPS
              go_wp2_with fail
              go_loopw [25, 14, 26, 27] (fun i told _ _ wr => ∃ (k d : Nat), i = .int .i64 k ∧ k ≤ js5.length ∧ OnS w1 wr F5 sb rb mb L.length (400 + k) st T u10 ps told d d js5 (js5.drop k) ∧ wr.ownsRow w5.heap.size 3 1 (.slice va6 js5.length vc6) js5.length (js5.map fun j => Value.int .i64 (numI st j)) ∧ ∀ x, (Value.slice va6 js5.length vc6).ownBlock = some x → ¬ F5 x ∧ told.ownBlock ≠ some x) (fun i _ _ _ _ => js5.length - (intOf i).toNat)
              case atStart => exact ⟨0, d, rfl, by omega, HS6.out.more (by omega), HR6.out, A6.out⟩
              case round =>
                clear A6 HR6 HS6
                obtain ⟨k, d, rfl, hk, S, hrow, hap⟩ := hrel
                have HS := Lib.hid S
                have HROW := Lib.hid hrow
                have HAP := Lib.hid hap
                clear S hap
                by_cases hlt : k < js5.length
                · have hltI : (k : Int) < js5.length := by omega
                  obtain ⟨g6, c6, hv6, _, hg6s, _, _, hcell6, _⟩ := owns_open hrow (by omega)
                  cases hv6
                  have KK := Lib.hid (show k + 1 ≤ js5.length by omega)
                  have x1 : (0 : Int) ≤ k := by omega
                  have x2 : (k : Int).toNat = k := by omega
                  have d6 := hcell6 k (.int .i64 (numI st js5[k])) (by rw [List.getElem?_map, List.getElem?_eq_getElem hlt]; rfl)
                  have DT := Lib.hid (on_data HS.out (List.getElem_mem hlt) hlen (by omega))
                  have HNN := Lib.hid (HS.out.jl _ (List.getElem_mem hlt))
                  have DF := Lib.hid (drop_first HS.out.jsrt hlt)
                  have HTi := Lib.hid (HT60.out _ HNN.out)
                  generalize js5[k] = i at d6 DT HNN DF HTi
                  clear hcell6 hrow
                  go_wp2_with fail
                  refine DT.out.mono ?_
                  rintro e w7 ⟨rfl, S7, b7⟩
                  have d7 : w7.cell? ⟨g6, k, none⟩ = some (.int .i64 (numI st i)) := (b7.cell (p := ⟨g6, k, none⟩) hg6s).trans d6
                  have R7 := Lib.hid (owns_below HROW.out b7)
                  have TK := Lib.hid (on_take S7 HNN.out (by unfold maxLen; have := HTi.out; omega) hlen (by omega))
                  clear S7 b7 DT
                  go_wp2_with fail
                  refine TK.out.mono ?_
                  rintro e w10 ⟨r10, d2, rfl, hdd, hr10, S10, L10⟩
                  have R10 := Lib.hid (own_later R7.out L10 (fun x hx => (HAP.out x hx).1))
                  have HS10 := Lib.hid S10
                  have hd2 := S10.le
                  have HR10 := Lib.hid hr10
                  have HM1 : Hid (d + (d2 - d) ≤ maxLen) := by show _ ≤ _; unfold maxLen; omega
                  have HM2 : Hid ((d + (d2 - d)) * 16 ≤ 140737488355328) := by show _ ≤ _; omega
                  have LEN3 := Lib.hid (show ((((List.range d2).drop d).map T).map fun x => Value.string (bs x)).length = (d2 - d) * 1 by simp)
                  have ONE3 := Lib.hid (strs_one (((List.range d2).drop d).map T))
                  clear S10 hr10 TK L10
                  obtain ⟨s10, n10, c10, rfl, _⟩ := HR10.out.get
                  go_wp2_with (at_builtin; refine wpList_append_is rfl (.tmp 203) (.tmp 210) 22 rfl w1.heap.size 9 j0 _ 1 16 Tryd.underlying22 hj hy0 hy1 hy2 rfl (by decide) _ d _ rfl HS10.out.toldO _ (d2 - d) _ rfl HR10.out LEN3.out ONE3.out HM1.out HM2.out HS10.out.bel.size ?_; intro v11 w11 hown11 hgrow11 hat11; have HO11 := Lib.hid (told_own hdd hown11); have S11 := Lib.hid (HS10.out.told_to hgrow11 HO11.out hat11); have R11 := Lib.hid (told_row R10.out HAP.out hgrow11); have A11 := Lib.hid (told_apart R10.out HAP.out hat11); clear hown11 hgrow11 hat11)
                  go_roundw
                  case rel => exact ⟨k + 1, d2, by go_num, KK.out, by rw [← DF.out]; exact S11.out.more (by omega), R11.out, A11.out⟩
                  case measure => simp [intOf]; omega
                · have hltI : ¬ (k : Int) < js5.length := by omega
                  obtain rfl : k = js5.length := by omega
                  obtain rfl : d = L.length := HS.out.all (List.drop_length ..)
                  have AK := Lib.hid (on_ack HS.out)
                  go_wp2_with fail
                  refine AK.out.mono ?_
                  rintro e w4 ⟨mv, rfl, S4, A4⟩
                  have SK := Lib.hid (on_stake S4 A4 (by rw [List.drop_length]; simp) hlen (by omega))
                  clear S4 A4 AK
                  go_wp2_with fail
                  refine SK.out.mono ?_
                  rintro e w5 ⟨z5, F5, js6, rfl, S5, hjs6⟩
                  obtain rfl : js6 = [] := hjs6 (by trivial)
                  have HS5 := Lib.hid S5
                  have SM := sameTexts_is _ (.slice s1 L.length c1) ((List.range L.length).map T) L _ (SliceIs.owned S5.toldO) (HSL.out.below (below_trans' B1.out S5.bel))
                  rw [show ((List.range L.length).map T == L) = true by rw [HT.out, take_T (Nat.le_refl _), List.take_length]; simp] at SM
                  have HSMM := Lib.hid SM
                  clear SM S5 SK hjs6
                  go_wp2_with fail
                  refine HSMM.out.mono ?_
                  rintro e w12 ⟨rfl, nq, rfl⟩
                  have KP := Lib.hid (on_kept (HS5.out.below ((Drew.drewN _ nq).below _)) (by omega))
                  go_wp2_with fail
                  refine KP.out.mono ?_
                  rintro e w6 ⟨r6, rfl, hr6, S6, hsz6⟩
                  have B6 := Lib.hid S6.bel
                  obtain ⟨va7, vc7, rfl⟩ := owns_slice hr6
                  clear S6 KP hr6
                  go_wp2_with fail
                  go_ret
                  exact ⟨rfl, below_trans' B1.out B6.out⟩
    · have hlI2 : (300 : Int) < a2.length := by omega
      go_enter Tryd.func4, Tryd.ntmps4
      go_wp2_with fail
      refine WD.out.mono ?_
      rintro e w1 ⟨rfl, b1⟩
      go_wp2_with fail
      go_ret
      exact ⟨rfl, b1⟩
  · have hlI : (30 : Int) < L.length := by omega
    go_enter Tryd.func4, Tryd.ntmps4
    go_wp2_with fail
    refine WD.out.mono ?_
    rintro e w1 ⟨rfl, b1⟩
    go_wp2_with fail
    go_ret
    exact ⟨rfl, b1⟩
end Go.Proofs.YtiomenchdaondaaDoor
