/- Contract of the document's DeltaOf, where all goes well. -/
import Derived.Test.YtkhjhbgoccljfaaDoorRefOps
import Derived.Test.YtkhjhbgoccljfaaDoorDeltaText
import Derived.Test.YtkhjhbgoccljfaaDoorRefSign2
import Derived.Test.YtkhjhbgoccljfaaDoorMake
namespace Go.Proofs.YtkhjhbgoccljfaaDoor
open Go.RowKit
set_option linter.unusedVariables false

theorem sub_bs (L : List UInt8) (i k e : Nat) (h : e = i + k ∧ e ≤ L.length ∨ e = L.length ∧ L.length ≤ i + k) : (bs L).extract i e = bs ((L.drop i).take k) := by
  apply eq_bs
  rcases h with ⟨h, _⟩ | ⟨h, h'⟩
  · subst h; simp
  · subst h
    simp
    omega
/-- the last op's cells of an owned slice of ops -/
theorem owns_last {w : World} {base : Nat} {v : Value} {m : List POp} {o : POp} (h : w.ownsRow base 67 4 v (m.length + 1) (ocells (m ++ [o]))) : ∃ g cap, v = .slice (some ⟨g, 0, none⟩) (m.length + 1) cap ∧ base ≤ g ∧ m.length + 1 ≤ cap ∧ cap ≤ maxLen ∧ w.cell? ⟨g, m.length * 4, none⟩ = some (.string (bs o.kind)) ∧ w.cell? ⟨g, m.length * 4 + 1, none⟩ = some (.int .i64 o.a) ∧
    w.cell? ⟨g, m.length * 4 + 2, none⟩ = some (.int .i64 o.n) ∧ w.cell? ⟨g, m.length * 4 + 3, none⟩ = some (.string (bs o.data)) ∧ (∀ j, w.frozen? ⟨g, j, none⟩ = false) := by
  obtain ⟨g, cap, hv, hg, _, h3, h4, hc, hf⟩ := owns_open h (by simp)
  obtain ⟨g0, g1, g2, g3⟩ := ocells_get (m ++ [o]) m.length (by simp)
  simp only [List.getElem_append_right (Nat.le_refl _), Nat.sub_self, List.getElem_singleton] at g0 g1 g2 g3
  exact ⟨g, cap, hv, by omega, by simpa using h3, h4, hc _ _ g0, hc _ _ g1, hc _ _ g2, hc _ _ g3, hf⟩
theorem owns_store {w : World} {base g cap : Nat} {m : List POp} {o p : POp} (j : Nat) (u : Value) (h : w.ownsRow base 67 4 (.slice (some ⟨g, 0, none⟩) (m.length + 1) cap) (m.length + 1) (ocells (m ++ [o]))) (hj : j < 4) (hp : o.vals.set j u = p.vals) :
    (w.setCell ⟨g, m.length * 4 + j, none⟩ u).ownsRow base 67 4 (.slice (some ⟨g, 0, none⟩) (m.length + 1) cap) (m.length + 1) (ocells (m ++ [p])) := by
  have hs := h.stored (m.length * 4 + j) u
  have hc : (ocells (m ++ [o])).set (m.length * 4 + j) u = ocells (m ++ [p]) := by
    rw [ocells_append, ocells_append, ocells_one, ocells_one, List.set_append_right _ _ (by rw [ocells_len]; omega), ocells_len, Nat.add_sub_cancel_left, hp]
  rw [← hc]; exact hs.1

theorem chk_pair' {l : List Blk} {size : Int} (h : (chk l size).1 = 0) : chk l size = (0, -1) := by
  have hA : ∀ (l : List Blk) (i : Nat) (all : Int), (chkA size l i all).1 = 0 → chkA size l i all = (0, -1) := by
    intro l
    induction l with
    | nil => intro i all _; rw [chkA]
    | cons b l ih =>
      intro i all h
      rw [chkA] at h ⊢
      split
      · rename_i hb; rw [if_pos hb] at h; simp at h
      · rename_i hb
        rw [if_neg hb] at h
        split
        · rename_i hf; rw [if_pos hf] at h; simp at h
        · rename_i hf; rw [if_neg hf] at h; exact ih _ _ h
  by_cases hs : 1 ≤ size ∧ size ≤ 64
  · rw [chk_yes hs] at h ⊢; exact hA _ _ _ h
  · rw [chk_no hs] at h; simp at h
set_option maxRecDepth 100000 in
set_option maxHeartbeats 6400000 in
theorem rdelta_yes (s0 : Option Addr) (n0 c0 : Nat) (l : List Blk) (z : Nat) (S : List UInt8) (w : World) (hl : SliceIs w (.slice s0 n0 c0) 3 (bcells l)) (hck : (chk l (z : Int)).1 = 0) (hS : S.length ≤ 4000) :
    Calls Tryd.prog 32 #[.slice s0 n0 c0, .int .i64 z, .string (bs S)] w fun e w' => ∃ v, e = .returned (.tuple #[v, .agg #[.int .i64 0, .int .i64 (-1)]]) ∧ w'.ownsRow w.heap.size 67 4 v (mkOps l z S).length (ocells (mkOps l z S)) ∧ Below w.heap.size w w' := by
  obtain ⟨i0, hi, hz0, hz1, hz2⟩ := info_parts info_op
  obtain ⟨k1, k2, k3, k4⟩ := chk_ok hck
  have HB0 := Lib.hid (below_one w (.cells #[.int .i64 0, .int .i64 0] 32))
  have hfz : (w.alloc (.cells #[.int .i64 0, .int .i64 0] 32)).heap[w.heap.size]? = some (.cells #[.int .i64 0, .int .i64 0] 32 (0, 0)) := heap_alloc_new _ _
  have HZ := Lib.hid hfz
  have RS := rsf_any s0 n0 c0 l (z : Int) _ (hl.below HB0.out)
  have hcp : chk l (z : Int) = (0, -1) := chk_pair' hck
  rw [rfv_is, hcp] at RS
  simp only [] at RS
  rw [show ((0 : Nat) : Int) = 0 from rfl] at RS
  have hSI : ¬ (4000 : Int) < S.length := by omega
  have HLS := Lib.hid (hl.below HB0.out)
  have HMK : Hid (mkOps l z S = mkA l z S.length (S.drop 0) []) := by show _ = _; unfold mkOps; simp
  have HK3 := Lib.hid k3
  have HRS := Lib.hid RS
  have HCK := Lib.hid hck
  clear hl hfz RS hck k4
  go_enter Tryd.func32, Tryd.ntmps32
  go_wp2_with fail
  refine HRS.out.mono ?_
  rintro e wf ⟨rfl, bf⟩
  have hzf := (bf.block w.heap.size (lt_of_block HZ.out)).trans HZ.out
  have bf0 := below_trans' HB0.out bf
  have HLF := Lib.hid (HLS.out.below bf)
  have bg := below_one wf (.cells #[.int .i64 (0 : Int), .int .i64 (-1)] 32)
  have hzg := (bg.block w.heap.size (lt_of_block hzf)).trans hzf
  have bg0 := below_trans' bf0 bg
  have HLG := Lib.hid (HLF.out.below bg)
  go_wp2_with fail
  generalize wf.alloc (.cells #[.int .i64 (0 : Int), .int .i64 (-1)] 32) = wg at *
  have HZG := Lib.hid hzg
  have BG0 := Lib.hid bg0
  clear hzf bf0 HLF bg hzg bg0 bf HLS HRS
  go_loopw [9, 10, 11, 12, 13, 14] (fun o t _ _ _ _ wr => ∃ (p f : Nat) (out : List POp), t = .int .i64 p ∧ p ≤ S.length ∧ S.length ≤ f + p ∧ mkOps l z S = mkA l z f (S.drop p) out ∧ OkOut out p ∧ wr.ownsRow wg.heap.size 67 4 o out.length (ocells out) ∧ Below wg.heap.size wg wr) (fun _ t _ _ _ _ _ => S.length - (intOf t).toNat)
  case atStart => exact ⟨0, S.length, [], rfl, by omega, by omega, HMK.out, OkOut.nil 0, by rw [ocells_nil]; exact World.ownsRow_nil _ _ _ _, Below.refl _ _⟩
  case round =>
    obtain ⟨p, f, out, rfl, hp, hf, hmk, hok, hown, bel⟩ := hrel
    have HMKA := Lib.hid hmk
    have HOK := Lib.hid hok
    clear hmk hok
    by_cases hlt : p < S.length
    · have hltI : (p : Int) < S.length := by omega
      obtain ⟨f', rfl⟩ : ∃ f', f = f' + 1 := ⟨f - 1, by omega⟩
      have hne : S.drop p ≠ [] := by intro h; have := congrArg List.length h; simp at this; omega
      have FO := rfind_any s0 n0 c0 l (bs ((S.drop p).take z)) wr (by rw [bs_size, List.length_take]; omega) (HLG.out.below bel)
      rw [bs_list] at FO
      have hbd := findI_bd l (blk ((S.drop p).take z))
      have CP := Lib.hid (fun h => HMKA.out.trans (mkA_copy (l := l) (size := z) (f := f') (out := out) hne h))
      have DT := Lib.hid (fun h => HMKA.out.trans (mkA_data (l := l) (size := z) (f := f') (out := out) hne h))
      have hx1 : p + z ≤ S.length → (bs S).extract p (p + z) = bs ((S.drop p).take z) := fun h => sub_bs S p z (p + z) (.inl ⟨rfl, h⟩)
      have hx2 : ¬ p + z ≤ S.length → (bs S).extract p S.length = bs ((S.drop p).take z) := fun h => sub_bs S p z S.length (.inr ⟨rfl, by omega⟩)
      have hx3 : (bs S).extract p (p + 1) = bs ((S.drop p).take 1) := sub_bs S p 1 (p + 1) (.inl ⟨rfl, by omega⟩)
      have hd1 : ((S.drop p).take 1).length = 1 := by rw [List.length_take, List.length_drop]; omega
      have HFO := Lib.hid FO
      have HX1 := Lib.hid hx1
      have HX2 := Lib.hid hx2
      have HX3 := Lib.hid hx3
      have HD1 := Lib.hid hd1
      generalize findI l (blk ((S.drop p).take z)) = kk at *
      have y1 : (p : Int).toNat = p := by omega
      have y2 : ((p : Int) + (z : Int)).toNat = p + z := by omega
      have y3 : (0 : Int) ≤ p := by omega
      clear FO hx1 hx2 hx3 hne hd1
      by_cases hto : p + z ≤ S.length
      · have htoI : ¬ (S.length : Int) < (p : Int) + z := by omega
        have y5 : (p : Int) ≤ (p : Int) + (z : Int) := by omega
        have y6 : (p : Int) + (z : Int) ≤ S.length := by omega
        have hex := HX1.out hto
        have HD2 := Lib.hid (show (S.drop p).drop z = S.drop (p + z) from by rw [List.drop_drop])
        rcases split_last out with rfl | ⟨m, oo, rfl⟩
        · obtain ⟨A, cap, rfl⟩ := owns_slice hown
          go_wp2_with fail
          refine HFO.out.mono ?_
          rintro e wq ⟨rfl, rfl⟩
          by_cases hk : 0 ≤ kk
          · have hmk := CP.out (by omega)
            rw [addCopy_nil] at hmk
            have HMK2 := Lib.hid hmk
            have HOK2 := Lib.hid (addCopy_nil kk ▸ (HOK.out.copy (k := kk) ⟨by omega, by omega⟩).mono (j := p + z) (by omega))
            clear hmk
            have HM1 : Hid (0 + 1 ≤ maxLen) := by show _ ≤ _; unfold maxLen; omega
            have HM2 : Hid ((0 + 1) * 48 ≤ 140737488355328) := by show _ ≤ _; omega
            have NEWC : Hid (∀ u ∈ ([.string ⟨#[99, 111, 112, 121]⟩, .int .i64 kk, .int .i64 1, .string ⟨#[]⟩] : List Value), u.oneCell' = true) := fun u hu => by simp at hu; rcases hu with rfl | rfl | rfl | rfl <;> rfl
            have OWN1 := Lib.hid (hown.alloc (.cells #[.string ⟨#[]⟩, .int .i64 0, .int .i64 0, .string ⟨#[]⟩] 67))
            have BEL1 := Lib.hid (bel.alloc bel.size (.cells #[.string ⟨#[]⟩, .int .i64 0, .int .i64 0, .string ⟨#[]⟩] 67))
            have HLT := Lib.hid (fun j hj => (hown.lt j hj).1)
            have hbs := bel.size
            have NEWH : Hid (((wr.alloc (.cells #[.string ⟨#[]⟩, .int .i64 0, .int .i64 0, .string ⟨#[]⟩] 67)).alloc (.cells #[.string ⟨#[99, 111, 112, 121]⟩, .int .i64 kk, .int .i64 1, .string ⟨#[]⟩] 67)).heap[wr.heap.size + 1]? = some (.cells #[.string ⟨#[99, 111, 112, 121]⟩, .int .i64 kk, .int .i64 1, .string ⟨#[]⟩] 67 (0, 0))) := by
              have h := heap_alloc_new (wr.alloc (.cells #[.string ⟨#[]⟩, .int .i64 0, .int .i64 0, .string ⟨#[]⟩] 67)) (.cells #[.string ⟨#[99, 111, 112, 121]⟩, .int .i64 kk, .int .i64 1, .string ⟨#[]⟩] 67)
              have e : (wr.alloc (.cells #[.string ⟨#[]⟩, .int .i64 0, .int .i64 0, .string ⟨#[]⟩] 67)).heap.size = wr.heap.size + 1 := by simp
              rw [e] at h
              exact h
            have hcells : ocells ([] ++ [⟨kCopy, kk, 1, []⟩]) = ocells [] ++ [.string ⟨#[99, 111, 112, 121]⟩, .int .i64 kk, .int .i64 1, .string ⟨#[]⟩] := by rw [ocells_append, ocells_one, copyVals]
            have HCL := Lib.hid hcells
            clear hcells hown
            go_wp2_with (at_builtin; refine wpList_append_own _ rfl _ _ 22 rfl wg.heap.size 67 i0 _ 4 48 Tryd.underlying22 hi hz0 hz1 hz2 rfl (by decide) _ _ _ rfl (OWN1.out.alloc _) ⟨wr.heap.size + 1, 0, none⟩ 1 1 [.string ⟨#[99, 111, 112, 121]⟩, .int .i64 kk, .int .i64 1, .string ⟨#[]⟩] rfl rfl (four_news NEWH.out) (fun u hu => NEWC.out u hu) HM1.out HM2.out (by simp; omega) ?_; intro v' w5 hown' hgrow _)
            have bel5 := (BEL1.out.alloc BEL1.out.size (.cells #[.string ⟨#[99, 111, 112, 121]⟩, .int .i64 kk, .int .i64 1, .string ⟨#[]⟩] 67)).grown hgrow (by simp; omega) HLT.out
            go_roundw
            case rel => exact ⟨p + z, f', _, by go_num, hto, by omega, by rw [← HD2.out]; exact HMK2.out, HOK2.out, by rw [HCL.out]; exact hown', bel5⟩
            case measure => simp [intOf]; omega
          · have hmk := DT.out (by omega)
            rw [addData_nil] at hmk
            have hx := HX3.out
            have hOK := (HOK.out.data (d := (S.drop p).take 1) HD1.out)
            rw [addData_nil] at hOK
            generalize (S.drop p).take 1 = d at *
            have HMK2 := Lib.hid hmk
            have HOK2 := Lib.hid hOK
            clear hmk hOK
            have z1 : ((p : Int) + 1).toNat = p + 1 := by omega
            have z2 : (p : Int) ≤ (p : Int) + 1 := by omega
            have z3 : (p : Int) + 1 ≤ S.length := by omega
            have HM1 : Hid (0 + 1 ≤ maxLen) := by show _ ≤ _; unfold maxLen; omega
            have HM2 : Hid ((0 + 1) * 48 ≤ 140737488355328) := by show _ ≤ _; omega
            have NEWC : Hid (∀ u ∈ ([.string ⟨#[100, 97, 116, 97]⟩, .int .i64 0, .int .i64 0, .string (bs d)] : List Value), u.oneCell' = true) := fun u hu => by simp at hu; rcases hu with rfl | rfl | rfl | rfl <;> rfl
            have OWN1 := Lib.hid (hown.alloc (.cells #[.string ⟨#[]⟩, .int .i64 0, .int .i64 0, .string ⟨#[]⟩] 67))
            have BEL1 := Lib.hid (bel.alloc bel.size (.cells #[.string ⟨#[]⟩, .int .i64 0, .int .i64 0, .string ⟨#[]⟩] 67))
            have HLT := Lib.hid (fun j hj => (hown.lt j hj).1)
            have hbs := bel.size
            have NEWH : Hid (((wr.alloc (.cells #[.string ⟨#[]⟩, .int .i64 0, .int .i64 0, .string ⟨#[]⟩] 67)).alloc (.cells #[.string ⟨#[100, 97, 116, 97]⟩, .int .i64 0, .int .i64 0, .string (bs d)] 67)).heap[wr.heap.size + 1]? = some (.cells #[.string ⟨#[100, 97, 116, 97]⟩, .int .i64 0, .int .i64 0, .string (bs d)] 67 (0, 0))) := by
              have h := heap_alloc_new (wr.alloc (.cells #[.string ⟨#[]⟩, .int .i64 0, .int .i64 0, .string ⟨#[]⟩] 67)) (.cells #[.string ⟨#[100, 97, 116, 97]⟩, .int .i64 0, .int .i64 0, .string (bs d)] 67)
              have e : (wr.alloc (.cells #[.string ⟨#[]⟩, .int .i64 0, .int .i64 0, .string ⟨#[]⟩] 67)).heap.size = wr.heap.size + 1 := by simp
              rw [e] at h
              exact h
            have hcells : ocells ([] ++ [⟨kData, 0, 0, d⟩]) = ocells [] ++ [.string ⟨#[100, 97, 116, 97]⟩, .int .i64 0, .int .i64 0, .string (bs d)] := by rw [ocells_append, ocells_one, dataVals]
            have HCL := Lib.hid hcells
            clear hcells hown
            go_wp2_with (at_builtin; refine wpList_append_own _ rfl _ _ 22 rfl wg.heap.size 67 i0 _ 4 48 Tryd.underlying22 hi hz0 hz1 hz2 rfl (by decide) _ _ _ rfl (OWN1.out.alloc _) ⟨wr.heap.size + 1, 0, none⟩ 1 1 [.string ⟨#[100, 97, 116, 97]⟩, .int .i64 0, .int .i64 0, .string (bs d)] rfl rfl (four_news NEWH.out) (fun u hu => NEWC.out u hu) HM1.out HM2.out (by simp; omega) ?_; intro v' w5 hown' hgrow _)
            have bel5 := (BEL1.out.alloc BEL1.out.size (.cells #[.string ⟨#[100, 97, 116, 97]⟩, .int .i64 0, .int .i64 0, .string (bs d)] 67)).grown hgrow (by simp; omega) HLT.out
            go_roundw
            case rel => exact ⟨p + 1, f', _, by go_num, by omega, by omega, by rw [← List.drop_drop]; exact HMK2.out, HOK2.out, by rw [HCL.out]; exact hown', bel5⟩
            case measure => simp [intOf]; omega
        · obtain ⟨hol, hob⟩ := HOK.out.bounds (by omega)
          have hlen : (m ++ [oo]).length = m.length + 1 := by simp
          rw [hlen] at hown hol
          obtain ⟨b1, b2, b3, b4, b5⟩ := hob oo (by simp)
          obtain ⟨g, cap, rfl, hg, hc1, hc2, d0, d1, d2, d3, df⟩ := owns_last hown
          clear hob hlen d0 d1 d2 d3 df
          obtain ⟨g', cap', hgg, _, _, _, d0, d1, d2, d3, df⟩ := owns_last (hown.alloc (.cells #[.string ⟨#[]⟩, .int .i64 0, .int .i64 0, .string ⟨#[]⟩] 67))
          cases hgg
          unfold maxLen at hc2
          obtain ⟨K, a, n, D⟩ := oo
          obtain ⟨g', cap', hgg, _, _, _, _, _, _, _, df⟩ := owns_last (hown.alloc (.cells #[.string (bs K), .int .i64 a, .int .i64 n, .string (bs D)] 67))
          cases hgg
          have f2 := df (m.length * 4 + 2)
          have f3 := df (m.length * 4 + 3)
          clear df
          simp only [] at b1 b2 b3 b4 b5 d0 d1 d2 d3
          go_wp2_with fail
          refine HFO.out.mono ?_
          rintro e wq ⟨rfl, rfl⟩
          by_cases hk : 0 ≤ kk
          · by_cases hkk : K = kCopy
            · have k1 := tl_eq K [99, 111, 112, 121] (by rw [hkk, kCopy_is])
              by_cases hak : a + n = kk
              · have q1 : (a + n == kk) = true := by simp [hak]
                have hac := addCopy_more m ⟨K, a, n, D⟩ kk ⟨hkk, hak⟩
                have hmk := CP.out (by omega)
                rw [hac] at hmk
                have HMK2 := Lib.hid hmk
                have HOK2 := Lib.hid (hac ▸ (HOK.out.copy (k := kk) ⟨by omega, by omega⟩).mono (j := p + z) (by omega))
                clear hmk hac hkk hak
                have OWN1 := Lib.hid (hown.alloc (.cells #[.string (bs K), .int .i64 a, .int .i64 n, .string (bs D)] 67))
                have BEL1 := Lib.hid (bel.alloc bel.size (.cells #[.string (bs K), .int .i64 a, .int .i64 n, .string (bs D)] 67))
                clear hown
                go_wp2_with fail
                have hown' := owns_store (p := ⟨K, a, n + 1, D⟩) 2 (.int .i64 (n + 1)) OWN1.out (by decide) rfl
                have bel5 := BEL1.out.setCell (p := ⟨g, m.length * 4 + 2, none⟩) hg (.int .i64 (n + 1))
                go_roundw
                case rel => exact ⟨p + z, f', _, by go_num, hto, by omega, by rw [← HD2.out]; exact HMK2.out, HOK2.out, by rw [show (m ++ [(⟨K, a, n + 1, D⟩ : POp)]).length = m.length + 1 by simp]; exact hown', bel5⟩
                case measure => simp [intOf]; omega
              · have q1 : (a + n == kk) = false := by simp [hak]
                have hac := addCopy_new m ⟨K, a, n, D⟩ kk (fun h => hak h.2)
                have hmk := CP.out (by omega)
                rw [hac] at hmk
                have HMK2 := Lib.hid hmk
                have HOK2 := Lib.hid (hac ▸ (HOK.out.copy (k := kk) ⟨by omega, by omega⟩).mono (j := p + z) (by omega))
                clear hmk hac hkk
                have HM1 : Hid ((m.length + 1) + 1 ≤ maxLen) := by show _ ≤ _; unfold maxLen; omega
                have HM2 : Hid (((m.length + 1) + 1) * 48 ≤ 140737488355328) := by show _ ≤ _; omega
                have NEWC : Hid (∀ u ∈ ([.string ⟨#[99, 111, 112, 121]⟩, .int .i64 kk, .int .i64 1, .string ⟨#[]⟩] : List Value), u.oneCell' = true) := fun u hu => by simp at hu; rcases hu with rfl | rfl | rfl | rfl <;> rfl
                have OWN1 := Lib.hid (hown.alloc (.cells #[.string (bs K), .int .i64 a, .int .i64 n, .string (bs D)] 67))
                have BEL1 := Lib.hid (bel.alloc bel.size (.cells #[.string (bs K), .int .i64 a, .int .i64 n, .string (bs D)] 67))
                have HLT := Lib.hid (fun j hj => (hown.lt j hj).1)
                have hbs := bel.size
                have NEWH : Hid (((wr.alloc (.cells #[.string (bs K), .int .i64 a, .int .i64 n, .string (bs D)] 67)).alloc (.cells #[.string ⟨#[99, 111, 112, 121]⟩, .int .i64 kk, .int .i64 1, .string ⟨#[]⟩] 67)).heap[wr.heap.size + 1]? = some (.cells #[.string ⟨#[99, 111, 112, 121]⟩, .int .i64 kk, .int .i64 1, .string ⟨#[]⟩] 67 (0, 0))) := by
                  have h := heap_alloc_new (wr.alloc (.cells #[.string (bs K), .int .i64 a, .int .i64 n, .string (bs D)] 67)) (.cells #[.string ⟨#[99, 111, 112, 121]⟩, .int .i64 kk, .int .i64 1, .string ⟨#[]⟩] 67)
                  have e : (wr.alloc (.cells #[.string (bs K), .int .i64 a, .int .i64 n, .string (bs D)] 67)).heap.size = wr.heap.size + 1 := by simp
                  rw [e] at h
                  exact h
                have hcells : ocells ((m ++ [⟨K, a, n, D⟩]) ++ [⟨kCopy, kk, 1, []⟩]) = ocells (m ++ [⟨K, a, n, D⟩]) ++ [.string ⟨#[99, 111, 112, 121]⟩, .int .i64 kk, .int .i64 1, .string ⟨#[]⟩] := by rw [ocells_append, ocells_one, copyVals]
                have HCL := Lib.hid hcells
                clear hcells hown
                go_wp2_with (at_builtin; refine wpList_append_own _ rfl _ _ 22 rfl wg.heap.size 67 i0 _ 4 48 Tryd.underlying22 hi hz0 hz1 hz2 rfl (by decide) _ _ _ rfl (OWN1.out.alloc _) ⟨wr.heap.size + 1, 0, none⟩ 1 1 [.string ⟨#[99, 111, 112, 121]⟩, .int .i64 kk, .int .i64 1, .string ⟨#[]⟩] rfl rfl (four_news NEWH.out) (fun u hu => NEWC.out u hu) HM1.out HM2.out (by simp; omega) ?_; intro v' w5 hown' hgrow _)
                have bel5 := (BEL1.out.alloc BEL1.out.size (.cells #[.string ⟨#[99, 111, 112, 121]⟩, .int .i64 kk, .int .i64 1, .string ⟨#[]⟩] 67)).grown hgrow (by simp; omega) HLT.out
                go_roundw
                case rel => exact ⟨p + z, f', _, by go_num, hto, by omega, by rw [← HD2.out]; exact HMK2.out, HOK2.out, by rw [HCL.out, show ((m ++ [(⟨K, a, n, D⟩ : POp)]) ++ [(⟨kCopy, kk, 1, []⟩ : POp)]).length = m.length + 1 + 1 by simp]; exact hown', bel5⟩
                case measure => simp [intOf]; omega
            · have k1 := tl_ne K [99, 111, 112, 121] (by rw [← kCopy_is]; exact hkk)
              have hac := addCopy_new m ⟨K, a, n, D⟩ kk (fun h => hkk h.1)
              have hmk := CP.out (by omega)
              rw [hac] at hmk
              have HMK2 := Lib.hid hmk
              have HOK2 := Lib.hid (hac ▸ (HOK.out.copy (k := kk) ⟨by omega, by omega⟩).mono (j := p + z) (by omega))
              clear hmk hac hkk
              have HM1 : Hid ((m.length + 1) + 1 ≤ maxLen) := by show _ ≤ _; unfold maxLen; omega
              have HM2 : Hid (((m.length + 1) + 1) * 48 ≤ 140737488355328) := by show _ ≤ _; omega
              have NEWC : Hid (∀ u ∈ ([.string ⟨#[99, 111, 112, 121]⟩, .int .i64 kk, .int .i64 1, .string ⟨#[]⟩] : List Value), u.oneCell' = true) := fun u hu => by simp at hu; rcases hu with rfl | rfl | rfl | rfl <;> rfl
              have OWN1 := Lib.hid (hown.alloc (.cells #[.string (bs K), .int .i64 a, .int .i64 n, .string (bs D)] 67))
              have BEL1 := Lib.hid (bel.alloc bel.size (.cells #[.string (bs K), .int .i64 a, .int .i64 n, .string (bs D)] 67))
              have HLT := Lib.hid (fun j hj => (hown.lt j hj).1)
              have hbs := bel.size
              have NEWH : Hid (((wr.alloc (.cells #[.string (bs K), .int .i64 a, .int .i64 n, .string (bs D)] 67)).alloc (.cells #[.string ⟨#[99, 111, 112, 121]⟩, .int .i64 kk, .int .i64 1, .string ⟨#[]⟩] 67)).heap[wr.heap.size + 1]? = some (.cells #[.string ⟨#[99, 111, 112, 121]⟩, .int .i64 kk, .int .i64 1, .string ⟨#[]⟩] 67 (0, 0))) := by
                have h := heap_alloc_new (wr.alloc (.cells #[.string (bs K), .int .i64 a, .int .i64 n, .string (bs D)] 67)) (.cells #[.string ⟨#[99, 111, 112, 121]⟩, .int .i64 kk, .int .i64 1, .string ⟨#[]⟩] 67)
                have e : (wr.alloc (.cells #[.string (bs K), .int .i64 a, .int .i64 n, .string (bs D)] 67)).heap.size = wr.heap.size + 1 := by simp
                rw [e] at h
                exact h
              have hcells : ocells ((m ++ [⟨K, a, n, D⟩]) ++ [⟨kCopy, kk, 1, []⟩]) = ocells (m ++ [⟨K, a, n, D⟩]) ++ [.string ⟨#[99, 111, 112, 121]⟩, .int .i64 kk, .int .i64 1, .string ⟨#[]⟩] := by rw [ocells_append, ocells_one, copyVals]
              have HCL := Lib.hid hcells
              clear hcells hown
              go_wp2_with (at_builtin; refine wpList_append_own _ rfl _ _ 22 rfl wg.heap.size 67 i0 _ 4 48 Tryd.underlying22 hi hz0 hz1 hz2 rfl (by decide) _ _ _ rfl (OWN1.out.alloc _) ⟨wr.heap.size + 1, 0, none⟩ 1 1 [.string ⟨#[99, 111, 112, 121]⟩, .int .i64 kk, .int .i64 1, .string ⟨#[]⟩] rfl rfl (four_news NEWH.out) (fun u hu => NEWC.out u hu) HM1.out HM2.out (by simp; omega) ?_; intro v' w5 hown' hgrow _)
              have bel5 := (BEL1.out.alloc BEL1.out.size (.cells #[.string ⟨#[99, 111, 112, 121]⟩, .int .i64 kk, .int .i64 1, .string ⟨#[]⟩] 67)).grown hgrow (by simp; omega) HLT.out
              go_roundw
              case rel => exact ⟨p + z, f', _, by go_num, hto, by omega, by rw [← HD2.out]; exact HMK2.out, HOK2.out, by rw [HCL.out, show ((m ++ [(⟨K, a, n, D⟩ : POp)]) ++ [(⟨kCopy, kk, 1, []⟩ : POp)]).length = m.length + 1 + 1 by simp]; exact hown', bel5⟩
              case measure => simp [intOf]; omega
          · have hmk := DT.out (by omega)
            have hx := HX3.out
            have hOK := (HOK.out.data (d := (S.drop p).take 1) HD1.out)
            have hd1 := HD1.out
            generalize (S.drop p).take 1 = d at *
            have z1 : ((p : Int) + 1).toNat = p + 1 := by omega
            have z2 : (p : Int) ≤ (p : Int) + 1 := by omega
            have z3 : (p : Int) + 1 ≤ S.length := by omega
            by_cases hkk : K = kData
            · have k1 := tl_eq K [100, 97, 116, 97] (by rw [hkk, kData_is])
              rw [addData_more m ⟨K, a, n, D⟩ d hkk] at hmk hOK
              have HMK2 := Lib.hid hmk
              have HOK2 := Lib.hid hOK
              have hcat : ¬ 9223372036854775807 < D.length + d.length := by omega
              clear hmk hOK hkk
              have OWN1 := Lib.hid (hown.alloc (.cells #[.string (bs K), .int .i64 a, .int .i64 n, .string (bs D)] 67))
              have BEL1 := Lib.hid (bel.alloc bel.size (.cells #[.string (bs K), .int .i64 a, .int .i64 n, .string (bs D)] 67))
              clear hown
              have zw : IntKind.i64.wrap ((p : Int) + 1) = (p : Int) + 1 := IntWalk.i64_in _ (by omega)
              go_wp2_with fail
              go_region_with (fail)
              go_wp2_with fail
              have hown' := owns_store (p := ⟨K, a, n, D ++ d⟩) 3 (.string (bs D ++ bs d)) OWN1.out (by decide) (by rw [bsapp]; rfl)
              have bel5 := (BEL1.out.setCell (p := ⟨g, m.length * 4 + 3, none⟩) hg (.string (bs D ++ bs d))).drew
              go_roundw
              case rel => exact ⟨p + 1, f', _, by go_num, by omega, by omega, by rw [← List.drop_drop]; exact HMK2.out, HOK2.out, by rw [show (m ++ [(⟨K, a, n, D ++ d⟩ : POp)]).length = m.length + 1 by simp]; exact hown', bel5⟩
              case measure => simp [intOf]; omega
            · have k1 := tl_ne K [100, 97, 116, 97] (by rw [← kData_is]; exact hkk)
              rw [addData_new m ⟨K, a, n, D⟩ d hkk] at hmk hOK
              have HMK2 := Lib.hid hmk
              have HOK2 := Lib.hid hOK
              clear hmk hOK hkk
              have HM1 : Hid ((m.length + 1) + 1 ≤ maxLen) := by show _ ≤ _; unfold maxLen; omega
              have HM2 : Hid (((m.length + 1) + 1) * 48 ≤ 140737488355328) := by show _ ≤ _; omega
              have NEWC : Hid (∀ u ∈ ([.string ⟨#[100, 97, 116, 97]⟩, .int .i64 0, .int .i64 0, .string (bs d)] : List Value), u.oneCell' = true) := fun u hu => by simp at hu; rcases hu with rfl | rfl | rfl | rfl <;> rfl
              have OWN1 := Lib.hid (hown.alloc (.cells #[.string (bs K), .int .i64 a, .int .i64 n, .string (bs D)] 67))
              have BEL1 := Lib.hid (bel.alloc bel.size (.cells #[.string (bs K), .int .i64 a, .int .i64 n, .string (bs D)] 67))
              have HLT := Lib.hid (fun j hj => (hown.lt j hj).1)
              have hbs := bel.size
              have NEWH : Hid (((wr.alloc (.cells #[.string (bs K), .int .i64 a, .int .i64 n, .string (bs D)] 67)).alloc (.cells #[.string ⟨#[100, 97, 116, 97]⟩, .int .i64 0, .int .i64 0, .string (bs d)] 67)).heap[wr.heap.size + 1]? = some (.cells #[.string ⟨#[100, 97, 116, 97]⟩, .int .i64 0, .int .i64 0, .string (bs d)] 67 (0, 0))) := by
                have h := heap_alloc_new (wr.alloc (.cells #[.string (bs K), .int .i64 a, .int .i64 n, .string (bs D)] 67)) (.cells #[.string ⟨#[100, 97, 116, 97]⟩, .int .i64 0, .int .i64 0, .string (bs d)] 67)
                have e : (wr.alloc (.cells #[.string (bs K), .int .i64 a, .int .i64 n, .string (bs D)] 67)).heap.size = wr.heap.size + 1 := by simp
                rw [e] at h
                exact h
              have hcells : ocells ((m ++ [⟨K, a, n, D⟩]) ++ [⟨kData, 0, 0, d⟩]) = ocells (m ++ [⟨K, a, n, D⟩]) ++ [.string ⟨#[100, 97, 116, 97]⟩, .int .i64 0, .int .i64 0, .string (bs d)] := by rw [ocells_append, ocells_one, dataVals]
              have HCL := Lib.hid hcells
              clear hcells hown
              go_wp2_with (at_builtin; refine wpList_append_own _ rfl _ _ 22 rfl wg.heap.size 67 i0 _ 4 48 Tryd.underlying22 hi hz0 hz1 hz2 rfl (by decide) _ _ _ rfl (OWN1.out.alloc _) ⟨wr.heap.size + 1, 0, none⟩ 1 1 [.string ⟨#[100, 97, 116, 97]⟩, .int .i64 0, .int .i64 0, .string (bs d)] rfl rfl (four_news NEWH.out) (fun u hu => NEWC.out u hu) HM1.out HM2.out (by simp; omega) ?_; intro v' w5 hown' hgrow _)
              have bel5 := (BEL1.out.alloc BEL1.out.size (.cells #[.string ⟨#[100, 97, 116, 97]⟩, .int .i64 0, .int .i64 0, .string (bs d)] 67)).grown hgrow (by simp; omega) HLT.out
              go_roundw
              case rel => exact ⟨p + 1, f', _, by go_num, by omega, by omega, by rw [← List.drop_drop]; exact HMK2.out, HOK2.out, by rw [HCL.out, show ((m ++ [(⟨K, a, n, D⟩ : POp)]) ++ [(⟨kData, 0, 0, d⟩ : POp)]).length = m.length + 1 + 1 by simp]; exact hown', bel5⟩
              case measure => simp [intOf]; omega
      · have htoI : (S.length : Int) < (p : Int) + z := by omega
        have y5 : (p : Int) ≤ (S.length : Int) := by omega
        have y6 : (S.length : Int) ≤ S.length := by omega
        have y7 : ((S.length : Int)).toNat = S.length := by omega
        have hex := HX2.out hto
        have HD2 := Lib.hid (show (S.drop p).drop z = S.drop S.length from by rw [List.drop_drop, List.drop_eq_nil_of_le (by omega), List.drop_eq_nil_of_le (by omega)])
        rcases split_last out with rfl | ⟨m, oo, rfl⟩
        · obtain ⟨A, cap, rfl⟩ := owns_slice hown
          go_wp2_with fail
          refine HFO.out.mono ?_
          rintro e wq ⟨rfl, rfl⟩
          by_cases hk : 0 ≤ kk
          · have hmk := CP.out (by omega)
            rw [addCopy_nil] at hmk
            have HMK2 := Lib.hid hmk
            have HOK2 := Lib.hid (addCopy_nil kk ▸ (HOK.out.copy (k := kk) ⟨by omega, by omega⟩).mono (j := S.length) (by omega))
            clear hmk
            have HM1 : Hid (0 + 1 ≤ maxLen) := by show _ ≤ _; unfold maxLen; omega
            have HM2 : Hid ((0 + 1) * 48 ≤ 140737488355328) := by show _ ≤ _; omega
            have NEWC : Hid (∀ u ∈ ([.string ⟨#[99, 111, 112, 121]⟩, .int .i64 kk, .int .i64 1, .string ⟨#[]⟩] : List Value), u.oneCell' = true) := fun u hu => by simp at hu; rcases hu with rfl | rfl | rfl | rfl <;> rfl
            have OWN1 := Lib.hid (hown.alloc (.cells #[.string ⟨#[]⟩, .int .i64 0, .int .i64 0, .string ⟨#[]⟩] 67))
            have BEL1 := Lib.hid (bel.alloc bel.size (.cells #[.string ⟨#[]⟩, .int .i64 0, .int .i64 0, .string ⟨#[]⟩] 67))
            have HLT := Lib.hid (fun j hj => (hown.lt j hj).1)
            have hbs := bel.size
            have NEWH : Hid (((wr.alloc (.cells #[.string ⟨#[]⟩, .int .i64 0, .int .i64 0, .string ⟨#[]⟩] 67)).alloc (.cells #[.string ⟨#[99, 111, 112, 121]⟩, .int .i64 kk, .int .i64 1, .string ⟨#[]⟩] 67)).heap[wr.heap.size + 1]? = some (.cells #[.string ⟨#[99, 111, 112, 121]⟩, .int .i64 kk, .int .i64 1, .string ⟨#[]⟩] 67 (0, 0))) := by
              have h := heap_alloc_new (wr.alloc (.cells #[.string ⟨#[]⟩, .int .i64 0, .int .i64 0, .string ⟨#[]⟩] 67)) (.cells #[.string ⟨#[99, 111, 112, 121]⟩, .int .i64 kk, .int .i64 1, .string ⟨#[]⟩] 67)
              have e : (wr.alloc (.cells #[.string ⟨#[]⟩, .int .i64 0, .int .i64 0, .string ⟨#[]⟩] 67)).heap.size = wr.heap.size + 1 := by simp
              rw [e] at h
              exact h
            have hcells : ocells ([] ++ [⟨kCopy, kk, 1, []⟩]) = ocells [] ++ [.string ⟨#[99, 111, 112, 121]⟩, .int .i64 kk, .int .i64 1, .string ⟨#[]⟩] := by rw [ocells_append, ocells_one, copyVals]
            have HCL := Lib.hid hcells
            clear hcells hown
            go_wp2_with (at_builtin; refine wpList_append_own _ rfl _ _ 22 rfl wg.heap.size 67 i0 _ 4 48 Tryd.underlying22 hi hz0 hz1 hz2 rfl (by decide) _ _ _ rfl (OWN1.out.alloc _) ⟨wr.heap.size + 1, 0, none⟩ 1 1 [.string ⟨#[99, 111, 112, 121]⟩, .int .i64 kk, .int .i64 1, .string ⟨#[]⟩] rfl rfl (four_news NEWH.out) (fun u hu => NEWC.out u hu) HM1.out HM2.out (by simp; omega) ?_; intro v' w5 hown' hgrow _)
            have bel5 := (BEL1.out.alloc BEL1.out.size (.cells #[.string ⟨#[99, 111, 112, 121]⟩, .int .i64 kk, .int .i64 1, .string ⟨#[]⟩] 67)).grown hgrow (by simp; omega) HLT.out
            go_roundw
            case rel => exact ⟨S.length, f', _, rfl, Nat.le_refl _, by omega, by rw [← HD2.out]; exact HMK2.out, HOK2.out, by rw [HCL.out]; exact hown', bel5⟩
            case measure => simp [intOf]; omega
          · have hmk := DT.out (by omega)
            rw [addData_nil] at hmk
            have hx := HX3.out
            have hOK := (HOK.out.data (d := (S.drop p).take 1) HD1.out)
            rw [addData_nil] at hOK
            generalize (S.drop p).take 1 = d at *
            have HMK2 := Lib.hid hmk
            have HOK2 := Lib.hid hOK
            clear hmk hOK
            have z1 : ((p : Int) + 1).toNat = p + 1 := by omega
            have z2 : (p : Int) ≤ (p : Int) + 1 := by omega
            have z3 : (p : Int) + 1 ≤ S.length := by omega
            have HM1 : Hid (0 + 1 ≤ maxLen) := by show _ ≤ _; unfold maxLen; omega
            have HM2 : Hid ((0 + 1) * 48 ≤ 140737488355328) := by show _ ≤ _; omega
            have NEWC : Hid (∀ u ∈ ([.string ⟨#[100, 97, 116, 97]⟩, .int .i64 0, .int .i64 0, .string (bs d)] : List Value), u.oneCell' = true) := fun u hu => by simp at hu; rcases hu with rfl | rfl | rfl | rfl <;> rfl
            have OWN1 := Lib.hid (hown.alloc (.cells #[.string ⟨#[]⟩, .int .i64 0, .int .i64 0, .string ⟨#[]⟩] 67))
            have BEL1 := Lib.hid (bel.alloc bel.size (.cells #[.string ⟨#[]⟩, .int .i64 0, .int .i64 0, .string ⟨#[]⟩] 67))
            have HLT := Lib.hid (fun j hj => (hown.lt j hj).1)
            have hbs := bel.size
            have NEWH : Hid (((wr.alloc (.cells #[.string ⟨#[]⟩, .int .i64 0, .int .i64 0, .string ⟨#[]⟩] 67)).alloc (.cells #[.string ⟨#[100, 97, 116, 97]⟩, .int .i64 0, .int .i64 0, .string (bs d)] 67)).heap[wr.heap.size + 1]? = some (.cells #[.string ⟨#[100, 97, 116, 97]⟩, .int .i64 0, .int .i64 0, .string (bs d)] 67 (0, 0))) := by
              have h := heap_alloc_new (wr.alloc (.cells #[.string ⟨#[]⟩, .int .i64 0, .int .i64 0, .string ⟨#[]⟩] 67)) (.cells #[.string ⟨#[100, 97, 116, 97]⟩, .int .i64 0, .int .i64 0, .string (bs d)] 67)
              have e : (wr.alloc (.cells #[.string ⟨#[]⟩, .int .i64 0, .int .i64 0, .string ⟨#[]⟩] 67)).heap.size = wr.heap.size + 1 := by simp
              rw [e] at h
              exact h
            have hcells : ocells ([] ++ [⟨kData, 0, 0, d⟩]) = ocells [] ++ [.string ⟨#[100, 97, 116, 97]⟩, .int .i64 0, .int .i64 0, .string (bs d)] := by rw [ocells_append, ocells_one, dataVals]
            have HCL := Lib.hid hcells
            clear hcells hown
            go_wp2_with (at_builtin; refine wpList_append_own _ rfl _ _ 22 rfl wg.heap.size 67 i0 _ 4 48 Tryd.underlying22 hi hz0 hz1 hz2 rfl (by decide) _ _ _ rfl (OWN1.out.alloc _) ⟨wr.heap.size + 1, 0, none⟩ 1 1 [.string ⟨#[100, 97, 116, 97]⟩, .int .i64 0, .int .i64 0, .string (bs d)] rfl rfl (four_news NEWH.out) (fun u hu => NEWC.out u hu) HM1.out HM2.out (by simp; omega) ?_; intro v' w5 hown' hgrow _)
            have bel5 := (BEL1.out.alloc BEL1.out.size (.cells #[.string ⟨#[100, 97, 116, 97]⟩, .int .i64 0, .int .i64 0, .string (bs d)] 67)).grown hgrow (by simp; omega) HLT.out
            go_roundw
            case rel => exact ⟨p + 1, f', _, by go_num, by omega, by omega, by rw [← List.drop_drop]; exact HMK2.out, HOK2.out, by rw [HCL.out]; exact hown', bel5⟩
            case measure => simp [intOf]; omega
        · obtain ⟨hol, hob⟩ := HOK.out.bounds (by omega)
          have hlen : (m ++ [oo]).length = m.length + 1 := by simp
          rw [hlen] at hown hol
          obtain ⟨b1, b2, b3, b4, b5⟩ := hob oo (by simp)
          obtain ⟨g, cap, rfl, hg, hc1, hc2, d0, d1, d2, d3, df⟩ := owns_last hown
          clear hob hlen d0 d1 d2 d3 df
          obtain ⟨g', cap', hgg, _, _, _, d0, d1, d2, d3, df⟩ := owns_last (hown.alloc (.cells #[.string ⟨#[]⟩, .int .i64 0, .int .i64 0, .string ⟨#[]⟩] 67))
          cases hgg
          unfold maxLen at hc2
          obtain ⟨K, a, n, D⟩ := oo
          obtain ⟨g', cap', hgg, _, _, _, _, _, _, _, df⟩ := owns_last (hown.alloc (.cells #[.string (bs K), .int .i64 a, .int .i64 n, .string (bs D)] 67))
          cases hgg
          have f2 := df (m.length * 4 + 2)
          have f3 := df (m.length * 4 + 3)
          clear df
          simp only [] at b1 b2 b3 b4 b5 d0 d1 d2 d3
          go_wp2_with fail
          refine HFO.out.mono ?_
          rintro e wq ⟨rfl, rfl⟩
          by_cases hk : 0 ≤ kk
          · by_cases hkk : K = kCopy
            · have k1 := tl_eq K [99, 111, 112, 121] (by rw [hkk, kCopy_is])
              by_cases hak : a + n = kk
              · have q1 : (a + n == kk) = true := by simp [hak]
                have hac := addCopy_more m ⟨K, a, n, D⟩ kk ⟨hkk, hak⟩
                have hmk := CP.out (by omega)
                rw [hac] at hmk
                have HMK2 := Lib.hid hmk
                have HOK2 := Lib.hid (hac ▸ (HOK.out.copy (k := kk) ⟨by omega, by omega⟩).mono (j := S.length) (by omega))
                clear hmk hac hkk hak
                have OWN1 := Lib.hid (hown.alloc (.cells #[.string (bs K), .int .i64 a, .int .i64 n, .string (bs D)] 67))
                have BEL1 := Lib.hid (bel.alloc bel.size (.cells #[.string (bs K), .int .i64 a, .int .i64 n, .string (bs D)] 67))
                clear hown
                go_wp2_with fail
                have hown' := owns_store (p := ⟨K, a, n + 1, D⟩) 2 (.int .i64 (n + 1)) OWN1.out (by decide) rfl
                have bel5 := BEL1.out.setCell (p := ⟨g, m.length * 4 + 2, none⟩) hg (.int .i64 (n + 1))
                go_roundw
                case rel => exact ⟨S.length, f', _, rfl, Nat.le_refl _, by omega, by rw [← HD2.out]; exact HMK2.out, HOK2.out, by rw [show (m ++ [(⟨K, a, n + 1, D⟩ : POp)]).length = m.length + 1 by simp]; exact hown', bel5⟩
                case measure => simp [intOf]; omega
              · have q1 : (a + n == kk) = false := by simp [hak]
                have hac := addCopy_new m ⟨K, a, n, D⟩ kk (fun h => hak h.2)
                have hmk := CP.out (by omega)
                rw [hac] at hmk
                have HMK2 := Lib.hid hmk
                have HOK2 := Lib.hid (hac ▸ (HOK.out.copy (k := kk) ⟨by omega, by omega⟩).mono (j := S.length) (by omega))
                clear hmk hac hkk
                have HM1 : Hid ((m.length + 1) + 1 ≤ maxLen) := by show _ ≤ _; unfold maxLen; omega
                have HM2 : Hid (((m.length + 1) + 1) * 48 ≤ 140737488355328) := by show _ ≤ _; omega
                have NEWC : Hid (∀ u ∈ ([.string ⟨#[99, 111, 112, 121]⟩, .int .i64 kk, .int .i64 1, .string ⟨#[]⟩] : List Value), u.oneCell' = true) := fun u hu => by simp at hu; rcases hu with rfl | rfl | rfl | rfl <;> rfl
                have OWN1 := Lib.hid (hown.alloc (.cells #[.string (bs K), .int .i64 a, .int .i64 n, .string (bs D)] 67))
                have BEL1 := Lib.hid (bel.alloc bel.size (.cells #[.string (bs K), .int .i64 a, .int .i64 n, .string (bs D)] 67))
                have HLT := Lib.hid (fun j hj => (hown.lt j hj).1)
                have hbs := bel.size
                have NEWH : Hid (((wr.alloc (.cells #[.string (bs K), .int .i64 a, .int .i64 n, .string (bs D)] 67)).alloc (.cells #[.string ⟨#[99, 111, 112, 121]⟩, .int .i64 kk, .int .i64 1, .string ⟨#[]⟩] 67)).heap[wr.heap.size + 1]? = some (.cells #[.string ⟨#[99, 111, 112, 121]⟩, .int .i64 kk, .int .i64 1, .string ⟨#[]⟩] 67 (0, 0))) := by
                  have h := heap_alloc_new (wr.alloc (.cells #[.string (bs K), .int .i64 a, .int .i64 n, .string (bs D)] 67)) (.cells #[.string ⟨#[99, 111, 112, 121]⟩, .int .i64 kk, .int .i64 1, .string ⟨#[]⟩] 67)
                  have e : (wr.alloc (.cells #[.string (bs K), .int .i64 a, .int .i64 n, .string (bs D)] 67)).heap.size = wr.heap.size + 1 := by simp
                  rw [e] at h
                  exact h
                have hcells : ocells ((m ++ [⟨K, a, n, D⟩]) ++ [⟨kCopy, kk, 1, []⟩]) = ocells (m ++ [⟨K, a, n, D⟩]) ++ [.string ⟨#[99, 111, 112, 121]⟩, .int .i64 kk, .int .i64 1, .string ⟨#[]⟩] := by rw [ocells_append, ocells_one, copyVals]
                have HCL := Lib.hid hcells
                clear hcells hown
                go_wp2_with (at_builtin; refine wpList_append_own _ rfl _ _ 22 rfl wg.heap.size 67 i0 _ 4 48 Tryd.underlying22 hi hz0 hz1 hz2 rfl (by decide) _ _ _ rfl (OWN1.out.alloc _) ⟨wr.heap.size + 1, 0, none⟩ 1 1 [.string ⟨#[99, 111, 112, 121]⟩, .int .i64 kk, .int .i64 1, .string ⟨#[]⟩] rfl rfl (four_news NEWH.out) (fun u hu => NEWC.out u hu) HM1.out HM2.out (by simp; omega) ?_; intro v' w5 hown' hgrow _)
                have bel5 := (BEL1.out.alloc BEL1.out.size (.cells #[.string ⟨#[99, 111, 112, 121]⟩, .int .i64 kk, .int .i64 1, .string ⟨#[]⟩] 67)).grown hgrow (by simp; omega) HLT.out
                go_roundw
                case rel => exact ⟨S.length, f', _, rfl, Nat.le_refl _, by omega, by rw [← HD2.out]; exact HMK2.out, HOK2.out, by rw [HCL.out, show ((m ++ [(⟨K, a, n, D⟩ : POp)]) ++ [(⟨kCopy, kk, 1, []⟩ : POp)]).length = m.length + 1 + 1 by simp]; exact hown', bel5⟩
                case measure => simp [intOf]; omega
            · have k1 := tl_ne K [99, 111, 112, 121] (by rw [← kCopy_is]; exact hkk)
              have hac := addCopy_new m ⟨K, a, n, D⟩ kk (fun h => hkk h.1)
              have hmk := CP.out (by omega)
              rw [hac] at hmk
              have HMK2 := Lib.hid hmk
              have HOK2 := Lib.hid (hac ▸ (HOK.out.copy (k := kk) ⟨by omega, by omega⟩).mono (j := S.length) (by omega))
              clear hmk hac hkk
              have HM1 : Hid ((m.length + 1) + 1 ≤ maxLen) := by show _ ≤ _; unfold maxLen; omega
              have HM2 : Hid (((m.length + 1) + 1) * 48 ≤ 140737488355328) := by show _ ≤ _; omega
              have NEWC : Hid (∀ u ∈ ([.string ⟨#[99, 111, 112, 121]⟩, .int .i64 kk, .int .i64 1, .string ⟨#[]⟩] : List Value), u.oneCell' = true) := fun u hu => by simp at hu; rcases hu with rfl | rfl | rfl | rfl <;> rfl
              have OWN1 := Lib.hid (hown.alloc (.cells #[.string (bs K), .int .i64 a, .int .i64 n, .string (bs D)] 67))
              have BEL1 := Lib.hid (bel.alloc bel.size (.cells #[.string (bs K), .int .i64 a, .int .i64 n, .string (bs D)] 67))
              have HLT := Lib.hid (fun j hj => (hown.lt j hj).1)
              have hbs := bel.size
              have NEWH : Hid (((wr.alloc (.cells #[.string (bs K), .int .i64 a, .int .i64 n, .string (bs D)] 67)).alloc (.cells #[.string ⟨#[99, 111, 112, 121]⟩, .int .i64 kk, .int .i64 1, .string ⟨#[]⟩] 67)).heap[wr.heap.size + 1]? = some (.cells #[.string ⟨#[99, 111, 112, 121]⟩, .int .i64 kk, .int .i64 1, .string ⟨#[]⟩] 67 (0, 0))) := by
                have h := heap_alloc_new (wr.alloc (.cells #[.string (bs K), .int .i64 a, .int .i64 n, .string (bs D)] 67)) (.cells #[.string ⟨#[99, 111, 112, 121]⟩, .int .i64 kk, .int .i64 1, .string ⟨#[]⟩] 67)
                have e : (wr.alloc (.cells #[.string (bs K), .int .i64 a, .int .i64 n, .string (bs D)] 67)).heap.size = wr.heap.size + 1 := by simp
                rw [e] at h
                exact h
              have hcells : ocells ((m ++ [⟨K, a, n, D⟩]) ++ [⟨kCopy, kk, 1, []⟩]) = ocells (m ++ [⟨K, a, n, D⟩]) ++ [.string ⟨#[99, 111, 112, 121]⟩, .int .i64 kk, .int .i64 1, .string ⟨#[]⟩] := by rw [ocells_append, ocells_one, copyVals]
              have HCL := Lib.hid hcells
              clear hcells hown
              go_wp2_with (at_builtin; refine wpList_append_own _ rfl _ _ 22 rfl wg.heap.size 67 i0 _ 4 48 Tryd.underlying22 hi hz0 hz1 hz2 rfl (by decide) _ _ _ rfl (OWN1.out.alloc _) ⟨wr.heap.size + 1, 0, none⟩ 1 1 [.string ⟨#[99, 111, 112, 121]⟩, .int .i64 kk, .int .i64 1, .string ⟨#[]⟩] rfl rfl (four_news NEWH.out) (fun u hu => NEWC.out u hu) HM1.out HM2.out (by simp; omega) ?_; intro v' w5 hown' hgrow _)
              have bel5 := (BEL1.out.alloc BEL1.out.size (.cells #[.string ⟨#[99, 111, 112, 121]⟩, .int .i64 kk, .int .i64 1, .string ⟨#[]⟩] 67)).grown hgrow (by simp; omega) HLT.out
              go_roundw
              case rel => exact ⟨S.length, f', _, rfl, Nat.le_refl _, by omega, by rw [← HD2.out]; exact HMK2.out, HOK2.out, by rw [HCL.out, show ((m ++ [(⟨K, a, n, D⟩ : POp)]) ++ [(⟨kCopy, kk, 1, []⟩ : POp)]).length = m.length + 1 + 1 by simp]; exact hown', bel5⟩
              case measure => simp [intOf]; omega
          · have hmk := DT.out (by omega)
            have hx := HX3.out
            have hOK := (HOK.out.data (d := (S.drop p).take 1) HD1.out)
            have hd1 := HD1.out
            generalize (S.drop p).take 1 = d at *
            have z1 : ((p : Int) + 1).toNat = p + 1 := by omega
            have z2 : (p : Int) ≤ (p : Int) + 1 := by omega
            have z3 : (p : Int) + 1 ≤ S.length := by omega
            by_cases hkk : K = kData
            · have k1 := tl_eq K [100, 97, 116, 97] (by rw [hkk, kData_is])
              rw [addData_more m ⟨K, a, n, D⟩ d hkk] at hmk hOK
              have HMK2 := Lib.hid hmk
              have HOK2 := Lib.hid hOK
              have hcat : ¬ 9223372036854775807 < D.length + d.length := by omega
              clear hmk hOK hkk
              have OWN1 := Lib.hid (hown.alloc (.cells #[.string (bs K), .int .i64 a, .int .i64 n, .string (bs D)] 67))
              have BEL1 := Lib.hid (bel.alloc bel.size (.cells #[.string (bs K), .int .i64 a, .int .i64 n, .string (bs D)] 67))
              clear hown
              have zw : IntKind.i64.wrap ((p : Int) + 1) = (p : Int) + 1 := IntWalk.i64_in _ (by omega)
              go_wp2_with fail
              go_region_with (fail)
              go_wp2_with fail
              have hown' := owns_store (p := ⟨K, a, n, D ++ d⟩) 3 (.string (bs D ++ bs d)) OWN1.out (by decide) (by rw [bsapp]; rfl)
              have bel5 := (BEL1.out.setCell (p := ⟨g, m.length * 4 + 3, none⟩) hg (.string (bs D ++ bs d))).drew
              go_roundw
              case rel => exact ⟨p + 1, f', _, by go_num, by omega, by omega, by rw [← List.drop_drop]; exact HMK2.out, HOK2.out, by rw [show (m ++ [(⟨K, a, n, D ++ d⟩ : POp)]).length = m.length + 1 by simp]; exact hown', bel5⟩
              case measure => simp [intOf]; omega
            · have k1 := tl_ne K [100, 97, 116, 97] (by rw [← kData_is]; exact hkk)
              rw [addData_new m ⟨K, a, n, D⟩ d hkk] at hmk hOK
              have HMK2 := Lib.hid hmk
              have HOK2 := Lib.hid hOK
              clear hmk hOK hkk
              have HM1 : Hid ((m.length + 1) + 1 ≤ maxLen) := by show _ ≤ _; unfold maxLen; omega
              have HM2 : Hid (((m.length + 1) + 1) * 48 ≤ 140737488355328) := by show _ ≤ _; omega
              have NEWC : Hid (∀ u ∈ ([.string ⟨#[100, 97, 116, 97]⟩, .int .i64 0, .int .i64 0, .string (bs d)] : List Value), u.oneCell' = true) := fun u hu => by simp at hu; rcases hu with rfl | rfl | rfl | rfl <;> rfl
              have OWN1 := Lib.hid (hown.alloc (.cells #[.string (bs K), .int .i64 a, .int .i64 n, .string (bs D)] 67))
              have BEL1 := Lib.hid (bel.alloc bel.size (.cells #[.string (bs K), .int .i64 a, .int .i64 n, .string (bs D)] 67))
              have HLT := Lib.hid (fun j hj => (hown.lt j hj).1)
              have hbs := bel.size
              have NEWH : Hid (((wr.alloc (.cells #[.string (bs K), .int .i64 a, .int .i64 n, .string (bs D)] 67)).alloc (.cells #[.string ⟨#[100, 97, 116, 97]⟩, .int .i64 0, .int .i64 0, .string (bs d)] 67)).heap[wr.heap.size + 1]? = some (.cells #[.string ⟨#[100, 97, 116, 97]⟩, .int .i64 0, .int .i64 0, .string (bs d)] 67 (0, 0))) := by
                have h := heap_alloc_new (wr.alloc (.cells #[.string (bs K), .int .i64 a, .int .i64 n, .string (bs D)] 67)) (.cells #[.string ⟨#[100, 97, 116, 97]⟩, .int .i64 0, .int .i64 0, .string (bs d)] 67)
                have e : (wr.alloc (.cells #[.string (bs K), .int .i64 a, .int .i64 n, .string (bs D)] 67)).heap.size = wr.heap.size + 1 := by simp
                rw [e] at h
                exact h
              have hcells : ocells ((m ++ [⟨K, a, n, D⟩]) ++ [⟨kData, 0, 0, d⟩]) = ocells (m ++ [⟨K, a, n, D⟩]) ++ [.string ⟨#[100, 97, 116, 97]⟩, .int .i64 0, .int .i64 0, .string (bs d)] := by rw [ocells_append, ocells_one, dataVals]
              have HCL := Lib.hid hcells
              clear hcells hown
              go_wp2_with (at_builtin; refine wpList_append_own _ rfl _ _ 22 rfl wg.heap.size 67 i0 _ 4 48 Tryd.underlying22 hi hz0 hz1 hz2 rfl (by decide) _ _ _ rfl (OWN1.out.alloc _) ⟨wr.heap.size + 1, 0, none⟩ 1 1 [.string ⟨#[100, 97, 116, 97]⟩, .int .i64 0, .int .i64 0, .string (bs d)] rfl rfl (four_news NEWH.out) (fun u hu => NEWC.out u hu) HM1.out HM2.out (by simp; omega) ?_; intro v' w5 hown' hgrow _)
              have bel5 := (BEL1.out.alloc BEL1.out.size (.cells #[.string ⟨#[100, 97, 116, 97]⟩, .int .i64 0, .int .i64 0, .string (bs d)] 67)).grown hgrow (by simp; omega) HLT.out
              go_roundw
              case rel => exact ⟨p + 1, f', _, by go_num, by omega, by omega, by rw [← List.drop_drop]; exact HMK2.out, HOK2.out, by rw [HCL.out, show ((m ++ [(⟨K, a, n, D⟩ : POp)]) ++ [(⟨kData, 0, 0, d⟩ : POp)]).length = m.length + 1 + 1 by simp]; exact hown', bel5⟩
              case measure => simp [intOf]; omega
    · have hltI : ¬ (p : Int) < S.length := by omega
      have hEX : mkOps l z S = out := by rw [HMKA.out, List.drop_eq_nil_of_le (by omega), mkA_end]
      have HEX := Lib.hid hEX
      have hz1 := (bel.block w.heap.size (lt_of_block HZG.out)).trans HZG.out
      have HZR := Lib.hid hz1
      have bel0 := below_trans' BG0.out bel
      have OWN := Lib.hid hown
      have hwg := BG0.out.size
      clear hEX hz1 bel hown
      go_wp2_with fail
      refine (rfine_any _).mono ?_
      rintro e w1 ⟨rfl, b1⟩
      have hz1 := (b1.block w.heap.size (lt_of_block HZR.out)).trans HZR.out
      have bx := below_trans' bel0 b1
      have f0 : w1.frozen? ⟨w.heap.size, 0, none⟩ = false := by simp [World.frozen?, hz1]
      have f1 : w1.frozen? ⟨w.heap.size, 1, none⟩ = false := by simp [World.frozen?, hz1]
      have e0 : w1.cell? ⟨w.heap.size, 0, none⟩ = some (.int .i64 0) := by simp [World.cell?, hz1]
      have e1 : w1.cell? ⟨w.heap.size, 1, none⟩ = some (.int .i64 0) := by simp [World.cell?, hz1]
      obtain ⟨r0, r1⟩ := set2 hz1 (.int .i64 0) (.int .i64 (-1))
      have bb := (bx.setCell (p := ⟨w.heap.size, 0, none⟩) (Nat.le_refl _) (.int .i64 0)).setCell (p := ⟨w.heap.size, 1, none⟩) (Nat.le_refl _) (.int .i64 (-1))
      have OW := Lib.hid (ownsRow_setCell_below (ownsRow_setCell_below (owns_below OWN.out b1) (a := ⟨w.heap.size, 0, none⟩) (by have := BG0.out; have := lt_of_block HZG.out; exact this) (.int .i64 0)) (a := ⟨w.heap.size, 1, none⟩) (by have := lt_of_block HZG.out; exact this) (.int .i64 (-1)))
      go_wp2_with fail
      generalize (w1.setCell ⟨w.heap.size, 0, none⟩ (.int .i64 0)).setCell ⟨w.heap.size, 1, none⟩ (.int .i64 (-1)) = w2 at r0 r1 bb OW ⊢
      (try simp only [Exit.inBlock, Exit.then])
      refine bodyPost_ret (by simp [results, Tryd.results32, go_sem, r0, r1]; try rfl) rfl ?_
      exact ⟨_, rfl, by rw [HEX.out]; exact owns_mono OW.out (Nat.le_of_lt (lt_of_block HZG.out)), bb⟩
end Go.Proofs.YtkhjhbgoccljfaaDoor
