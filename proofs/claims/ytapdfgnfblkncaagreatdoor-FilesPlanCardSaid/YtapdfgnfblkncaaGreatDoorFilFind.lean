/- files.find: the place of a name, by halves. -/
import Derived.Test.YtapdfgnfblkncaaGreatDoorFilList
namespace Go.Proofs.YtapdfgnfblkncaaGreatDoor
open Go.RowKit
set_option linter.unusedVariables false

theorem find_isSome {l : List PF} {n : List UInt8} (hs : l.Pairwise fun a b => ltL a.n b.n = true) {a : Nat} (ha : a < l.length) (h1 : ltL l[a].n n = false) (h2 : ∀ k (h : k < l.length), k < a → ltL l[k].n n = true) : (fgetL l n).isSome = (l[a].n == n) := by
  cases hg : fgetL l n with
  | some d =>
    have hm := fgetL_some hg
    obtain ⟨j, hj, hje⟩ := List.getElem_of_mem hm
    have hjn : l[j].n = n := by rw [hje]
    have : a = j := by
      rcases Nat.lt_trichotomy a j with h | h | h
      · have h3 := List.pairwise_iff_getElem.1 hs a j ha hj h
        rw [hjn, h1] at h3; cases h3
      · exact h
      · have := h2 j hj h
        rw [hjn, ltL_irrefl] at this; cases this
    subst this
    simp [hjn]
  | none =>
    have := fgetL_none hg l[a] (List.getElem_mem _)
    simp [this]
theorem find_isNone {l : List PF} {n : List UInt8} (hs : l.Pairwise fun a b => ltL a.n b.n = true) {a : Nat} (ha : l.length ≤ a) (h2 : ∀ k (h : k < l.length), k < a → ltL l[k].n n = true) : (fgetL l n).isSome = false := by
  cases hg : fgetL l n with
  | none => rfl
  | some d =>
    obtain ⟨j, hj, hje⟩ := List.getElem_of_mem (fgetL_some hg)
    have h3 := h2 j hj (by omega)
    rw [hje, ltL_irrefl] at h3; cases h3
theorem enterFind : ∀ args w, (callFunc 55 args).run Tryz.prog w = .ok (.enter 55 args) w := enters_of Tryz.func55 (by kernel_rfl) rfl
set_option maxRecDepth 100000 in
set_option maxHeartbeats 1600000 in
theorem find1_any (f : PF) (n : List UInt8) (w : World) :
    Calls Tryz.prog 55 #[.agg #[.string (bs f.n), .string (bs f.d)], .string (bs n)] w fun e w' => e = .returned (.int .i64 (Lib.compareBytes f.n n)) ∧ Below w.heap.size w w' := by
  have HB := Lib.hid (wb_alloc w (.cells #[.string (bs f.n), .string (bs f.d)] 95))
  have CM := Lib.hid (fun w' => Tryz.strings_Compare (bs f.n) (bs n) w')
  simp only [bs_list] at CM
  go_enter Tryz.func55, Tryz.ntmps55
  go_wp2_with fail
  refine (CM.out _).mono ?_
  rintro e w1 ⟨rfl, rfl⟩
  go_wp2_with fail
  go_ret
  exact ⟨rfl, HB.out⟩
set_option maxRecDepth 100000 in
set_option maxHeartbeats 6400000 in
theorem bsf_any (l : List PF) (v : Value) (n : List UInt8) (w : World) (hl : SliceIs w v 2 (fcells l)) (hs : l.Pairwise fun a b => ltL a.n b.n = true) (hlen : l.length ≤ 1000000) :
    Calls Tryz.prog 54 #[v, .string (bs n), .func (.func 55) #[] #[]] w fun e w' => e = .returned (.tuple #[.int .i64 (placeL l n), .bool (fgetL l n).isSome]) ∧ Below w.heap.size w w' := by
  obtain ⟨s, m, c, rfl, hn, h1, h2, hg⟩ := hl.get
  rw [fcells_len] at hn
  obtain rfl : m = l.length := by omega
  unfold maxLen at h2
  have HSL := Lib.hid hl
  have HS := Lib.hid hs
  have eg := enterFind
  clear hl hg hs
  go_enter Tryz.func54, Tryz.ntmps54
  go_wp2_with fail
  go_loopw [9, 10, 11] (fun i j _ wr => ∃ a b : Nat, i = .int .i64 a ∧ j = .int .i64 b ∧ a ≤ b ∧ b ≤ l.length ∧ (∀ k (h : k < l.length), k < a → ltL l[k].n n = true) ∧ (∀ k (h : k < l.length), b ≤ k → ltL l[k].n n = false) ∧ Below w.heap.size w wr) (fun i j _ _ => (intOf j).toNat - (intOf i).toNat)
  case atStart => exact ⟨0, l.length, rfl, rfl, by omega, by omega, fun k _ hk => by omega, fun k h hk => by omega, Below.refl _ _⟩
  case round =>
    obtain ⟨a, b, rfl, rfl, hab, hb, hlo, hhi, bel⟩ := hrel
    have HLO := Lib.hid hlo
    have HHI := Lib.hid hhi
    clear hlo hhi
    by_cases hlt : a < b
    · have hltI : (a : Int) < b := by omega
      obtain ⟨mid, hmid⟩ : ∃ q : Nat, q = (a + b) / 2 := ⟨_, rfl⟩
      have hm1 : a ≤ mid := by omega
      have hm2 : mid < b := by omega
      have hml : mid < l.length := by omega
      obtain ⟨s0', n0', c0', e1, _, _, _, g1⟩ := (HSL.out.below bel).get
      cases e1
      obtain ⟨g2, g3⟩ := fcells_get l mid hml
      obtain ⟨ad, rfl, d0⟩ := g1 _ _ g2
      obtain ⟨a', e', d1⟩ := g1 _ _ g3
      cases e'
      clear g1 g2 g3
      have CL := Lib.hid (find1_any l[mid] n wr)
      have hw : IntKind.i64.wrap ((a : Int) + b) = (a : Int) + b := IntWalk.i64_in _ (by omega)
      have hq : ((a : Int) + b) / 2 = (mid : Int) := by omega
      have d1 := cell_at d1
      have y1 : (0 : Int) ≤ mid := by omega
      have y2 : (mid : Int).toNat = mid := by omega
      have y3 : (mid : Int) < l.length := by omega
      have LOW := Lib.hid (fun (h : ltL l[mid].n n = true) => show ∀ k (h : k < l.length), k < mid + 1 → ltL l[k].n n = true from fun k hk hkm => by
        by_cases e : k = mid
        · subst e; exact h
        · have := List.pairwise_iff_getElem.1 HS.out k mid hk hml (by omega)
          exact ltL_trans this h)
      have HIG := Lib.hid (fun (h : ltL l[mid].n n = false) => show ∀ k (h : k < l.length), mid ≤ k → ltL l[k].n n = false from fun k hk hkm => by
        by_cases e : k = mid
        · subst e; exact h
        · have h2 := List.pairwise_iff_getElem.1 HS.out mid k hml hk (by omega)
          cases h3 : ltL l[k].n n with
          | false => rfl
          | true => rw [ltL_trans h2 h3] at h; cases h)
      generalize l[mid] = x at d0 d1 CL LOW HIG
      clear hmid
      by_cases hx : ltL x.n n = true
      · have hcI : Lib.compareBytes x.n n < 0 := (cmp_lt_iff _ _).2 hx
        generalize Lib.compareBytes x.n n = cc at *
        have L := Lib.hid (LOW.out hx)
        clear LOW HIG hx
        go_wp2_with fail
        refine CL.out.mono ?_
        rintro e w1 ⟨rfl, b1⟩
        go_wp2_with fail
        go_roundw
        case rel => exact ⟨mid + 1, b, by go_num, rfl, by omega, hb, L.out, HHI.out, below_trans' bel b1⟩
        case measure => simp [intOf]; omega
      · have hcI : ¬ Lib.compareBytes x.n n < 0 := fun h => hx ((cmp_lt_iff _ _).1 h)
        have hxf : ltL x.n n = false := by simpa using hx
        generalize Lib.compareBytes x.n n = cc at *
        have L := Lib.hid (HIG.out hxf)
        clear LOW HIG hx hxf
        go_wp2_with fail
        refine CL.out.mono ?_
        rintro e w1 ⟨rfl, b1⟩
        go_wp2_with fail
        go_roundw
        case rel => exact ⟨a, mid, rfl, rfl, hm1, by omega, HLO.out, L.out, below_trans' bel b1⟩
        case measure => simp [intOf]; omega
    · have hltI : ¬ (a : Int) < b := by omega
      obtain rfl : a = b := by omega
      have hpl := place_of HS.out hb HLO.out HHI.out
      have HPL := Lib.hid hpl
      by_cases hal : a < l.length
      · have halI : (a : Int) < l.length := by omega
        obtain ⟨s0', n0', c0', e1, _, _, _, g1⟩ := (HSL.out.below bel).get
        cases e1
        obtain ⟨g2, g3⟩ := fcells_get l a hal
        obtain ⟨ad, rfl, d0⟩ := g1 _ _ g2
        obtain ⟨a', e', d1⟩ := g1 _ _ g3
        cases e'
        clear g1 g2 g3
        have CL := Lib.hid (find1_any l[a] n wr)
        have d1 := cell_at d1
        have y1 : (0 : Int) ≤ a := by omega
        have y2 : (a : Int).toNat = a := by omega
        have GET := Lib.hid (find_isSome HS.out hal (HHI.out a hal (Nat.le_refl _)) HLO.out)
        generalize l[a] = x at d0 d1 CL GET
        have hbb : (Lib.compareBytes x.n n == 0) = (x.n == n) := by
          by_cases e : x.n = n
          · rw [e, cmp_eq]; simp
          · have := fun h => e ((cmp_eq_iff x.n n).1 h)
            rw [beq_eq_false_iff_ne.2 this, beq_eq_false_iff_ne.2 e]
        have HBB := Lib.hid hbb
        generalize Lib.compareBytes x.n n = cc at *
        clear hpl hbb
        go_wp2_with fail
        refine CL.out.mono ?_
        rintro e w1 ⟨rfl, b1⟩
        go_wp2_with fail
        go_ret2
        exact ⟨by rw [← HPL.out, GET.out, ← HBB.out]; rfl, below_trans' bel b1⟩
      · have halI : ¬ (a : Int) < l.length := by omega
        have halD : decide ((a : Int) < l.length) = false := by simpa using halI
        have GET := Lib.hid (find_isNone HS.out (by omega : l.length ≤ a) HLO.out)
        clear hpl
        go_wp2_with fail
        go_ret2
        exact ⟨by rw [← HPL.out, GET.out]; rfl, bel⟩
end Go.Proofs.YtapdfgnfblkncaaGreatDoor
