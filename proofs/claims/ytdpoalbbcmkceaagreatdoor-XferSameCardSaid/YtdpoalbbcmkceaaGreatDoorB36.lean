/- Texts of one proof, one behind the other: FilList, FilFind, FilDrop. -/
import Derived.Test.YtdpoalbbcmkceaaGreatDoorB18
import Derived.Test.YtdpoalbbcmkceaaGreatDoorB19
import Derived.Test.YtdpoalbbcmkceaaGreatDoorB17
import Derived.Lib.SliceRun
import Derived.Test.YtdpoalbbcmkceaaGreatDoorB35
/- Contracts of OwnFiles, LongFiles, slices.Clone at files, files.Drop, files.find. -/
namespace Go.Proofs.YtdpoalbbcmkceaaGreatDoor
open Go.RowKit
set_option linter.unusedVariables false

theorem infoFile : (Tryz.prog.info? 49).map (fun i => (i.zero, i.size, i.bytes)) = some (some (.agg #[.string ⟨#[]⟩, .string ⟨#[]⟩]), 2, 32) := by kernel_rfl
theorem own_first {w : World} {base : Nat} {e : TypeId} {size : Nat} {v : Value} {m : Nat} {xs : List Value} (h : w.ownsRow base e size v (0 + m) ([] ++ xs)) : w.ownsRow base e size v m xs := by simpa using h
theorem below_first {w w' : World} (h : w.grownBy w' (Value.ownBlock (.slice none 0 0))) : Below w.heap.size w w' := ⟨h.os, h.tape, h.output, h.size, fun k hk => h.block k hk (by simp [Value.ownBlock])⟩
set_option maxRecDepth 100000 in
set_option maxHeartbeats 1600000 in
theorem ownFiles_any (l : List PF) (v : Value) (w : World) (hl : SliceIs w v 2 (fcells l)) (hlen : l.length ≤ 1000000) :
    Calls Tryz.prog 8 #[v] w fun e w' => ∃ r, e = .returned r ∧ w'.ownsRow w.heap.size 49 2 r l.length (fcells l) ∧ Below w.heap.size w w' := by
  obtain ⟨i0, hi, hz0, hz1, hz2⟩ := info_parts infoFile
  have HL := Lib.hid hl
  obtain ⟨s, n, c, rfl, _⟩ := hl.get
  have HN1 : Hid (0 + l.length ≤ maxLen) := by show _ ≤ _; unfold maxLen; omega
  have HN2 : Hid ((0 + l.length) * 32 ≤ 140737488355328) := by show _ ≤ _; omega
  have LEN := Lib.hid (fcells_len l)
  clear hl
  go_enter Tryz.func8, Tryz.ntmps8
  go_wp2_with (at_builtin; refine wpList_append_is rfl _ _ 22 rfl w.heap.size 49 i0 _ 2 32 Tryz.underlying22 hi hz0 hz1 hz2 rfl (by decide) _ 0 [] rfl (World.ownsRow_nil _ _ _ _) _ l.length _ rfl HL.out LEN.out (fcells_cell l) HN1.out HN2.out (Nat.le_refl _) ?_; intro v' w5 hown hgrow _; have HO := Lib.hid (own_first hown); have HB := Lib.hid (below_first hgrow); clear hown hgrow)
  go_ret
  exact ⟨_, rfl, HO.out, HB.out⟩
set_option maxRecDepth 100000 in
set_option maxHeartbeats 1600000 in
theorem flclone_any (l : List PF) (v : Value) (w : World) (hl : SliceIs w v 2 (fcells l)) (hlen : l.length ≤ 1000000) :
    Calls Tryz.prog 20 #[v] w fun e w' => ∃ r, e = .returned r ∧ w'.ownsRow w.heap.size 49 2 r l.length (fcells l) ∧ Below w.heap.size w w' := by
  obtain ⟨i0, hi, hz0, hz1, hz2⟩ := info_parts infoFile
  have HL := Lib.hid hl
  have LEN := Lib.hid (fcells_len l)
  obtain ⟨s, n, c, rfl, hn, _⟩ := hl.get
  have hnl : l.length = n := by rw [fcells_len] at hn; omega
  cases s with
  | none =>
    obtain ⟨rfl, rfl⟩ : n = 0 ∧ c = 0 := by
      rcases hl with ⟨h, _⟩ | ⟨a, len, cap, h, _⟩
      · cases h; exact ⟨rfl, rfl⟩
      · cases h
    have he : l = [] := List.eq_nil_of_length_eq_zero (by omega)
    have HO := Lib.hid (World.ownsRow_nil w w.heap.size 49 2)
    subst he
    have HB := Lib.hid (Below.refl w.heap.size w)
    have hq : ∀ w, (binOp .eql 22 (.slice none 0 0) (.slice none 0 0)).run Tryz.prog w = .ok (.bool true) w := fun w => Lib.run_eql_slice_nil w _ _ none 0 0 0 0 Tryz.underlying22
    clear hl hn hnl
    go_enter Tryz.func20, Tryz.ntmps20
    go_wp2_with fail
    go_ret
    exact ⟨_, rfl, HO.out, HB.out⟩
  | some a =>
    have hq : ∀ w, (binOp .eql 22 (.slice (some a) n c) (.slice none 0 0)).run Tryz.prog w = .ok (.bool false) w := fun w => Lib.run_eql_slice_nil w _ _ (some a) n c 0 0 Tryz.underlying22
    have HN1 : Hid (0 + l.length ≤ maxLen) := by show _ ≤ _; unfold maxLen; omega
    have HN2 : Hid ((0 + l.length) * 32 ≤ 140737488355328) := by show _ ≤ _; omega
    have SR := Lib.hid (HL.out.below (wb_alloc w (.cells #[] 49)))
    have OM := Lib.hid (World.ownsRow_made (base := w.heap.size) (e := 49) (size := 2) (w := w) #[] 0 (Nat.le_refl _) (by decide) rfl)
    have B1 := Lib.hid (wb_alloc w (.cells #[] 49))
    clear hl hn hnl
    go_enter Tryz.func20, Tryz.ntmps20
    go_wp2_with (at_builtin; refine wpList_append_is rfl _ _ 22 rfl w.heap.size 49 i0 _ 2 32 Tryz.underlying22 hi hz0 hz1 hz2 rfl (by decide) (.slice (some ⟨w.heap.size, 0, none⟩) 0 0) 0 [] rfl OM.out _ l.length _ rfl SR.out LEN.out (fcells_cell l) HN1.out HN2.out B1.out.size ?_; intro v' w5 hown hgrow _; have HO := Lib.hid (own_first hown); have HB := Lib.hid (B1.out.grown hgrow B1.out.size (fun j hj => by simp [Value.ownBlock] at hj; omega)); clear hown hgrow)
    go_ret
    exact ⟨_, rfl, HO.out, HB.out⟩
end Go.Proofs.YtdpoalbbcmkceaaGreatDoor
/- files.find: the place of a name, by halves. -/
namespace Go.Proofs.YtdpoalbbcmkceaaGreatDoor
open Go.RowKit
set_option linter.unusedVariables false

theorem find_isSome {l : List PF} {n : List UInt8} (hs : l.Pairwise fun a b => ltL a.n b.n = true) {a : Nat} (ha : a < l.length) (h1 : ltL l[a].n n = false) (h2 : ∀ k (h : k < l.length), k < a → ltL l[k].n n = true) : (fgetL l n).isSome = (l[a].n == n) := by
  cases hg : fgetL l n with
  | some d =>
    have hm := fgetL_some hg
    obtain ⟨j, hj, hje⟩ := List.getElem_of_mem hm
    have hjn : l[j].n = n := by rw [hje]
    have : a = j := by
      rcases Nat.lt_trichotomy a j with h | h | h
      · have h3 := List.pairwise_iff_getElem.1 hs a j ha hj h
        rw [hjn, h1] at h3; cases h3
      · exact h
      · have := h2 j hj h
        rw [hjn, ltL_irrefl] at this; cases this
    subst this
    simp [hjn]
  | none =>
    have := fgetL_none hg l[a] (List.getElem_mem _)
    simp [this]
theorem find_isNone {l : List PF} {n : List UInt8} (hs : l.Pairwise fun a b => ltL a.n b.n = true) {a : Nat} (ha : l.length ≤ a) (h2 : ∀ k (h : k < l.length), k < a → ltL l[k].n n = true) : (fgetL l n).isSome = false := by
  cases hg : fgetL l n with
  | none => rfl
  | some d =>
    obtain ⟨j, hj, hje⟩ := List.getElem_of_mem (fgetL_some hg)
    have h3 := h2 j hj (by omega)
    rw [hje, ltL_irrefl] at h3; cases h3
theorem enterFind : ∀ args w, (callFunc 147 args).run Tryz.prog w = .ok (.enter 147 args) w := enters_of Tryz.func147 (by kernel_rfl) rfl
set_option maxRecDepth 100000 in
set_option maxHeartbeats 1600000 in
theorem find1_any (f : PF) (n : List UInt8) (w : World) :
    Calls Tryz.prog 147 #[.agg #[.string (bs f.n), .string (bs f.d)], .string (bs n)] w fun e w' => e = .returned (.int .i64 (Lib.compareBytes f.n n)) ∧ Below w.heap.size w w' := by
  have HB := Lib.hid (wb_alloc w (.cells #[.string (bs f.n), .string (bs f.d)] 49))
  have CM := Lib.hid (fun w' => Tryz.strings_Compare (bs f.n) (bs n) w')
  simp only [bs_list] at CM
  go_enter Tryz.func147, Tryz.ntmps147
  go_wp2_with fail
  refine (CM.out _).mono ?_
  rintro e w1 ⟨rfl, rfl⟩
  go_wp2_with fail
  go_ret
  exact ⟨rfl, HB.out⟩
set_option maxRecDepth 100000 in
set_option maxHeartbeats 6400000 in
theorem bsf_any (l : List PF) (v : Value) (n : List UInt8) (w : World) (hl : SliceIs w v 2 (fcells l)) (hs : l.Pairwise fun a b => ltL a.n b.n = true) (hlen : l.length ≤ 1000000) :
    Calls Tryz.prog 146 #[v, .string (bs n), .func (.func 147) #[] #[]] w fun e w' => e = .returned (.tuple #[.int .i64 (placeL l n), .bool (fgetL l n).isSome]) ∧ Below w.heap.size w w' := by
  obtain ⟨s, m, c, rfl, hn, h1, h2, hg⟩ := hl.get
  rw [fcells_len] at hn
  obtain rfl : m = l.length := by omega
  unfold maxLen at h2
  have HSL := Lib.hid hl
  have HS := Lib.hid hs
  have eg := enterFind
  clear hl hg hs
  go_enter Tryz.func146, Tryz.ntmps146
  go_wp2_with fail
  go_loopw [9, 10, 11] (fun i j _ wr => ∃ a b : Nat, i = .int .i64 a ∧ j = .int .i64 b ∧ a ≤ b ∧ b ≤ l.length ∧ (∀ k (h : k < l.length), k < a → ltL l[k].n n = true) ∧ (∀ k (h : k < l.length), b ≤ k → ltL l[k].n n = false) ∧ Below w.heap.size w wr) (fun i j _ _ => (intOf j).toNat - (intOf i).toNat)
  case atStart => exact ⟨0, l.length, rfl, rfl, by omega, by omega, fun k _ hk => by omega, fun k h hk => by omega, Below.refl _ _⟩
  case round =>
    obtain ⟨a, b, rfl, rfl, hab, hb, hlo, hhi, bel⟩ := hrel
    have HLO := Lib.hid hlo
    have HHI := Lib.hid hhi
    clear hlo hhi
    by_cases hlt : a < b
    · have hltI : (a : Int) < b := by omega
      obtain ⟨mid, hmid⟩ : ∃ q : Nat, q = (a + b) / 2 := ⟨_, rfl⟩
      have hm1 : a ≤ mid := by omega
      have hm2 : mid < b := by omega
      have hml : mid < l.length := by omega
      obtain ⟨s0', n0', c0', e1, _, _, _, g1⟩ := (HSL.out.below bel).get
      cases e1
      obtain ⟨g2, g3⟩ := fcells_get l mid hml
      obtain ⟨ad, rfl, d0⟩ := g1 _ _ g2
      obtain ⟨a', e', d1⟩ := g1 _ _ g3
      cases e'
      clear g1 g2 g3
      have CL := Lib.hid (find1_any l[mid] n wr)
      have hw : IntKind.i64.wrap ((a : Int) + b) = (a : Int) + b := IntWalk.i64_in _ (by omega)
      have hq : ((a : Int) + b) / 2 = (mid : Int) := by omega
      have d1 := cell_at d1
      have y1 : (0 : Int) ≤ mid := by omega
      have y2 : (mid : Int).toNat = mid := by omega
      have y3 : (mid : Int) < l.length := by omega
      have LOW := Lib.hid (fun (h : ltL l[mid].n n = true) => show ∀ k (h : k < l.length), k < mid + 1 → ltL l[k].n n = true from fun k hk hkm => by
        by_cases e : k = mid
        · subst e; exact h
        · have := List.pairwise_iff_getElem.1 HS.out k mid hk hml (by omega)
          exact ltL_trans this h)
      have HIG := Lib.hid (fun (h : ltL l[mid].n n = false) => show ∀ k (h : k < l.length), mid ≤ k → ltL l[k].n n = false from fun k hk hkm => by
        by_cases e : k = mid
        · subst e; exact h
        · have h2 := List.pairwise_iff_getElem.1 HS.out mid k hml hk (by omega)
          cases h3 : ltL l[k].n n with
          | false => rfl
          | true => rw [ltL_trans h2 h3] at h; cases h)
      generalize l[mid] = x at d0 d1 CL LOW HIG
      clear hmid
      by_cases hx : ltL x.n n = true
      · have hcI : Lib.compareBytes x.n n < 0 := (cmp_lt_iff _ _).2 hx
        generalize Lib.compareBytes x.n n = cc at *
        have L := Lib.hid (LOW.out hx)
        clear LOW HIG hx
        go_wp2_with fail
        refine CL.out.mono ?_
        rintro e w1 ⟨rfl, b1⟩
        go_wp2_with fail
        go_roundw
        case rel => exact ⟨mid + 1, b, by go_num, rfl, by omega, hb, L.out, HHI.out, below_trans' bel b1⟩
        case measure => simp [intOf]; omega
      · have hcI : ¬ Lib.compareBytes x.n n < 0 := fun h => hx ((cmp_lt_iff _ _).1 h)
        have hxf : ltL x.n n = false := by simpa using hx
        generalize Lib.compareBytes x.n n = cc at *
        have L := Lib.hid (HIG.out hxf)
        clear LOW HIG hx hxf
        go_wp2_with fail
        refine CL.out.mono ?_
        rintro e w1 ⟨rfl, b1⟩
        go_wp2_with fail
        go_roundw
        case rel => exact ⟨a, mid, rfl, rfl, hm1, by omega, HLO.out, L.out, below_trans' bel b1⟩
        case measure => simp [intOf]; omega
    · have hltI : ¬ (a : Int) < b := by omega
      obtain rfl : a = b := by omega
      have hpl := place_of HS.out hb HLO.out HHI.out
      have HPL := Lib.hid hpl
      by_cases hal : a < l.length
      · have halI : (a : Int) < l.length := by omega
        obtain ⟨s0', n0', c0', e1, _, _, _, g1⟩ := (HSL.out.below bel).get
        cases e1
        obtain ⟨g2, g3⟩ := fcells_get l a hal
        obtain ⟨ad, rfl, d0⟩ := g1 _ _ g2
        obtain ⟨a', e', d1⟩ := g1 _ _ g3
        cases e'
        clear g1 g2 g3
        have CL := Lib.hid (find1_any l[a] n wr)
        have d1 := cell_at d1
        have y1 : (0 : Int) ≤ a := by omega
        have y2 : (a : Int).toNat = a := by omega
        have GET := Lib.hid (find_isSome HS.out hal (HHI.out a hal (Nat.le_refl _)) HLO.out)
        generalize l[a] = x at d0 d1 CL GET
        have hbb : (Lib.compareBytes x.n n == 0) = (x.n == n) := by
          by_cases e : x.n = n
          · rw [e, cmp_eq]; simp
          · have := fun h => e ((cmp_eq_iff x.n n).1 h)
            rw [beq_eq_false_iff_ne.2 this, beq_eq_false_iff_ne.2 e]
        have HBB := Lib.hid hbb
        generalize Lib.compareBytes x.n n = cc at *
        clear hpl hbb
        go_wp2_with fail
        refine CL.out.mono ?_
        rintro e w1 ⟨rfl, b1⟩
        go_wp2_with fail
        go_ret2
        exact ⟨by rw [← HPL.out, GET.out, ← HBB.out]; rfl, below_trans' bel b1⟩
      · have halI : ¬ (a : Int) < l.length := by omega
        have halD : decide ((a : Int) < l.length) = false := by simpa using halI
        have GET := Lib.hid (find_isNone HS.out (by omega : l.length ≤ a) HLO.out)
        clear hpl
        go_wp2_with fail
        go_ret2
        exact ⟨by rw [← HPL.out, GET.out]; rfl, bel⟩
end Go.Proofs.YtdpoalbbcmkceaaGreatDoor
/- Contracts of files.Drop, files.find. -/
namespace Go.Proofs.YtdpoalbbcmkceaaGreatDoor
open Go.RowKit
set_option linter.unusedVariables false

theorem enterDrop : ∀ args w, (callFunc 88 args).run Tryz.prog w = .ok (.enter 88 args) w := enters_of Tryz.func88 (by kernel_rfl) rfl
set_option maxRecDepth 100000 in
set_option maxHeartbeats 1600000 in
theorem drop1_any (f : PF) (n : List UInt8) (b : Nat) (w : World) (hc : w.cell? ⟨b, 0, none⟩ = some (.string (bs n))) :
    Calls Tryz.prog 88 #[.agg #[.string (bs f.n), .string (bs f.d)], .pointer (some ⟨b, 0, none⟩)] w fun e w' => e = .returned (.bool (f.n == n)) ∧ Below w.heap.size w w' := by
  have hb : b < w.heap.size := World.block_lt_of_cell? w _ hc
  have hne : b ≠ w.heap.size := by omega
  have HB := Lib.hid (wb_alloc w (.cells #[.string (bs f.n), .string (bs f.d)] 49))
  have HE := Lib.hid (show ((bs f.n).toList == (bs n).toList) = (f.n == n) by rw [bs_tl', bs_tl'])
  go_enter Tryz.func88, Tryz.ntmps88
  go_wp2_with fail
  go_ret
  exact ⟨by rw [← HE.out]; rfl, HB.out⟩
set_option maxRecDepth 100000 in
set_option maxHeartbeats 3200000 in
theorem fldrop_any (l : List PF) (v : Value) (n : List UInt8) (w : World) (hl : SliceIs w v 2 (fcells l)) (hlen : l.length ≤ 1000000) :
    Calls Tryz.prog 55 #[v, .string (bs n)] w fun e w' => ∃ r, e = .returned r ∧ w'.ownsRow w.heap.size 49 2 r (dropL l n).length (fcells (dropL l n)) ∧ Below w.heap.size w w' := by
  have B0 := Lib.hid (below_box w (.string (bs n)) 9)
  have CL := Lib.hid (flclone_any l v _ (hl.below B0.out) hlen)
  clear hl
  go_enter Tryz.func55, Tryz.ntmps55
  go_wp2_with fail
  refine CL.out.mono ?_
  rintro e w1 ⟨r, rfl, hr, b1⟩
  have HR := Lib.hid hr
  have HB1 := Lib.hid b1
  have key := delFile_any fn0 fn1 (fun _ => ⟨rfl, rfl⟩) (fun f => f.n == n) 88 #[.pointer (some ⟨w.heap.size, 0, none⟩)] enterDrop _ r l w1 hr (fun W x hx hc =>
    drop1_any x n w.heap.size W (by
      have h0 : w1.cell? ⟨w.heap.size, 0, none⟩ = some (.string (bs n)) := (b1.cell (p := ⟨w.heap.size, 0, none⟩) (by simp)).trans (by simp)
      have hb := hc.block w.heap.size (World.block_lt_of_cell? w1 _ h0) (fun e => by have h9 := (hr.lt _ e).1; revert h9; simp)
      rw [← h0]; exact World.cell?_of_block hb))
  have KEY := Lib.hid key
  obtain ⟨va, vc, rfl⟩ := owns_slice hr
  clear hr b1 key CL
  go_wp2_with fail
  refine KEY.out.mono ?_
  rintro e w2 ⟨v', rfl, h1, h2, h3⟩
  have HH := Lib.hid h1
  have HC := Lib.hid h3
  clear h1 h2 h3 KEY
  go_wp2_with fail
  go_ret
  refine ⟨_, rfl, ?_, ?_⟩
  · exact owns_mono' HH.out B0.out.size
  · exact HC.out.below (below_trans' B0.out HB1.out) (fun x hx => by have := (HR.out.lt x hx).1; have := B0.out.size; omega)
end Go.Proofs.YtdpoalbbcmkceaaGreatDoor
