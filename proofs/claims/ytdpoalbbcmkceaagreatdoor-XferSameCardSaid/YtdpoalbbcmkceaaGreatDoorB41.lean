/- Texts of one proof, one behind the other: FilPlan, FilPlan2, FilKeepP. -/
import Derived.Test.YtdpoalbbcmkceaaGreatDoorB39
import Derived.Test.YtdpoalbbcmkceaaGreatDoorB40
import Derived.Test.YtdpoalbbcmkceaaGreatDoorB38
/- Contract of files.Plan. -/
namespace Go.Proofs.YtdpoalbbcmkceaaGreatDoor
open Go.RowKit
set_option linter.unusedVariables false

/-! ### plans in plain words -/
theorem planF_fuel : ∀ (f : Nat) (a t : List PL), a.length + t.length ≤ f → planF f a t = planF (a.length + t.length) a t
  | 0, a, t, h => by
    have h1 : a = [] := List.eq_nil_of_length_eq_zero (by omega)
    have h2 : t = [] := List.eq_nil_of_length_eq_zero (by omega)
    subst h1 h2; rfl
  | f + 1, a, t, h => by
    by_cases hn : a = [] ∧ t = []
    · obtain ⟨rfl, rfl⟩ := hn
      rw [planF_end, planF_end]
    · obtain ⟨b1, b2, b3⟩ := stepL_bd a t
      have b3 := b3 hn
      have hpos : 0 < a.length + t.length := by
        cases a with
        | nil => cases t with
          | nil => exact absurd ⟨rfl, rfl⟩ hn
          | cons => simp
        | cons => simp; omega
      obtain ⟨g, hg⟩ : ∃ g, a.length + t.length = g + 1 := ⟨a.length + t.length - 1, by omega⟩
      rw [planF_step hn, hg, planF_step hn]
      congr 1
      have e1 : (a.drop (stepL a t).2.1).length + (t.drop (stepL a t).2.2).length ≤ g := by rw [List.length_drop, List.length_drop]; omega
      rw [planF_fuel f _ _ (by omega), planF_fuel g _ _ e1]
termination_by f => f
decreasing_by all_goals omega
theorem planL_step {a t : List PL} (h : ¬ (a = [] ∧ t = [])) : planL a t = [(stepL a t).1] ++ planL (a.drop (stepL a t).2.1) (t.drop (stepL a t).2.2) := by
  obtain ⟨b1, b2, b3⟩ := stepL_bd a t
  have b3 := b3 h
  have e1 : (a.drop (stepL a t).2.1).length + (t.drop (stepL a t).2.2).length = a.length + t.length - ((stepL a t).2.1 + (stepL a t).2.2) := by rw [List.length_drop, List.length_drop]; omega
  obtain ⟨g, hg⟩ : ∃ g, a.length + t.length = g + 1 := ⟨a.length + t.length - 1, by omega⟩
  unfold planL
  rw [hg, planF_step h, planF_fuel g _ _ (by omega)]
  rfl
theorem planL_none : planL [] [] = [] := planF_end _
theorem planL_len (a t : List PL) : ∀ f, (planF f a t).length ≤ f := by
  intro f
  induction f generalizing a t with
  | zero => simp [planF]
  | succ f ih =>
    unfold planF
    split
    · simp
    · simp only [List.length_cons]; have := ih (a.drop (stepL a t).2.1) (t.drop (stepL a t).2.2); omega
theorem planL_le (a t : List PL) : (planL a t).length ≤ a.length + t.length := planL_len a t _

/-! ### rows of steps -/
def sk0 (s : PS) : Value := .string (bs s.k)
def sk1 (s : PS) : Value := .string (bs s.n)
def scells (l : List PS) : List Value := rowc sk0 sk1 l
theorem scells_len (l : List PS) : (scells l).length = l.length * 2 := rowc_len _ _ l
theorem scells_get (l : List PS) (k : Nat) (h : k < l.length) : (scells l)[k * 2]? = some (.string (bs l[k].k)) ∧ (scells l)[k * 2 + 1]? = some (.string (bs l[k].n)) := rowc_get _ _ l k h
theorem scells_nil : scells [] = [] := rfl
theorem scells_append (l m : List PS) : scells (l ++ m) = scells l ++ scells m := rowc_append _ _ l m
theorem scells_one (s : PS) : scells [s] = [.string (bs s.k), .string (bs s.n)] := rfl
attribute [irreducible] scells
theorem infoStep : (Tryz.prog.info? 106).map (fun i => (i.zero, i.size, i.bytes)) = some (some (.agg #[.string ⟨#[]⟩, .string ⟨#[]⟩]), 2, 32) := by kernel_rfl
theorem slice_oneS {w : World} {b : Nat} {x y : Value} (h : w.heap[b]? = some (.cells #[x, y] 106 (0, 0))) : SliceIs w (.slice (some ⟨b, 0, none⟩) 1 1) 2 [x, y] :=
  .inr ⟨_, 1, 1, rfl, Nat.le_refl _, by unfold maxLen; omega, rfl, fun j u' hj => by
    match j, hj with
    | 0, hj => simp at hj; subst hj; simp [World.cell?, h, Addr.add]
    | 1, hj => simp at hj; subst hj; simp [World.cell?, h, Addr.add]⟩

/-! ### a slice of lines is cut at its beginning -/
theorem lines_head {w : World} {s : Option Addr} {n c : Nat} {l : List PL} (h : SliceIs w (.slice s n c) 3 (lcells l)) (k : Nat) (hk : k ≤ n) :
    ∃ sH nH cH, (∀ w' : World, (Instr.slice 34 (.slice s n c) (some (.int .i64 k)) none none).run Tryz.prog w' = .ok (.slice sH nH cH) w') ∧ SliceIs w (.slice sH nH cH) 3 (lcells (l.drop k)) := by
  have hg := h.get
  obtain ⟨s', n', c', e, hn, h1, h2, hg⟩ := hg
  cases e
  rw [lcells_len] at hn
  have hln : l.length = n := by omega
  have h2' := h2
  unfold maxLen at h2'
  have hu : Tryz.prog.underlying 34 = some (.slice (Tryz.prog.elem 34)) := by kernel_rfl
  have hz : ∀ w' : World, (sizeOf (Tryz.prog.elem 34)).run Tryz.prog w' = .ok 3 w' := fun w' => by kernel_rfl
  refine ⟨_, n - k, c - k, fun w' => by
    rw [run_slice_l w' 34 s n c hu .i64 k (by omega) (by omega), hz]
    simp only [Result.andThen, sliced]
    rw [show ((k : Int)).toNat = k by omega], ?_⟩
  rcases s with _ | a
  · have hn0 : n = 0 := by
      rcases Nat.eq_zero_or_pos n with e | e
      · exact e
      · obtain ⟨g0, _, _⟩ := lcells_get l 0 (by omega)
        obtain ⟨a, e, _⟩ := hg _ _ g0
        cases e
    subst hn0
    have hl : l = [] := List.eq_nil_of_length_eq_zero hln
    subst hl
    obtain rfl : k = 0 := by omega
    rcases h with ⟨e1, e2⟩ | ⟨a, len, cap, e1, _⟩
    · cases e1; exact .inl ⟨by simp, by simp [lcells_nil]⟩
    · cases e1
  · have e0 : lcells l = lcells (l.take k) ++ lcells (l.drop k) := by rw [← lcells_append, List.take_append_drop]
    have e1 : (lcells (l.take k)).length = k * 3 := by rw [lcells_len, List.length_take]; omega
    have e2 : (lcells (l.drop k)).length = (n - k) * 3 := by rw [lcells_len, List.length_drop]; omega
    by_cases e : c = k
    · have hkn : k = n := by omega
      have hd : lcells (l.drop k) = [] := List.eq_nil_of_length_eq_zero (by rw [e2]; omega)
      rw [if_pos e, hd]
      exact .inr ⟨a, n - k, c - k, rfl, by omega, by omega, by simp; omega, fun i u hu => by simp at hu⟩
    · rw [if_neg e]
      refine .inr ⟨a.add (k * 3), n - k, c - k, rfl, by omega, by omega, e2, fun i u hu => ?_⟩
      rw [Addr.add_add]
      obtain ⟨a', ea, d⟩ := hg (k * 3 + i) u (by rw [e0, List.getElem?_append_right (by omega), e1, Nat.add_sub_cancel_left]; exact hu)
      cases ea
      exact d
theorem lines_len {w : World} {s : Option Addr} {n c : Nat} {l : List PL} (h : SliceIs w (.slice s n c) 3 (lcells l)) : n = l.length ∧ n ≤ c ∧ c ≤ maxLen := by
  obtain ⟨s', n', c', e, hn, h1, h2, _⟩ := h.get
  cases e
  rw [lcells_len] at hn
  exact ⟨by omega, h1, h2⟩
theorem steps_len {w : World} {s : Option Addr} {n c : Nat} {l : List PS} (h : SliceIs w (.slice s n c) 2 (scells l)) : n = l.length ∧ n ≤ c ∧ c ≤ maxLen := by
  obtain ⟨s', n', c', e, hn, h1, h2, _⟩ := h.get
  cases e
  rw [scells_len] at hn
  exact ⟨by omega, h1, h2⟩
theorem step_cells {w : World} {ad : Addr} {n c : Nat} {l : List PS} (h : SliceIs w (.slice (some ad) n c) 2 (scells l)) {k : Nat} (hk : k < l.length) :
    w.cell? (ad.add (k * 2)) = some (.string (bs l[k].k)) ∧ w.cell? ⟨(ad.add (k * 2)).block, (ad.add (k * 2)).off + 1, none⟩ = some (.string (bs l[k].n)) := by
  obtain ⟨s', n', c', e, _, _, _, hg⟩ := h.get
  cases e
  obtain ⟨x0, x1⟩ := scells_get l k hk
  obtain ⟨a, e, d0⟩ := hg _ _ x0
  cases e
  obtain ⟨a, e, d1⟩ := hg _ _ x1
  cases e
  exact ⟨d0, cell_at d1⟩
theorem file_cells {w : World} {ad : Addr} {n c : Nat} {l : List PF} (h : SliceIs w (.slice (some ad) n c) 2 (fcells l)) {k : Nat} (hk : k < l.length) :
    w.cell? (ad.add (k * 2)) = some (.string (bs l[k].n)) ∧ w.cell? ⟨(ad.add (k * 2)).block, (ad.add (k * 2)).off + 1, none⟩ = some (.string (bs l[k].d)) := by
  obtain ⟨s', n', c', e, _, _, _, hg⟩ := h.get
  cases e
  obtain ⟨x0, x1⟩ := fcells_get l k hk
  obtain ⟨a, e, d0⟩ := hg _ _ x0
  cases e
  obtain ⟨a, e, d1⟩ := hg _ _ x1
  cases e
  exact ⟨d0, cell_at d1⟩
/-- is a name among the first steps? -/
def inB (p : List PS) (j : Nat) (n : List UInt8) : Bool := (p.take j).any fun s => s.n == n
theorem inB_zero (p : List PS) (n : List UInt8) : inB p 0 n = false := by simp [inB]
theorem inB_next {p : List PS} {j : Nat} (h : j < p.length) (n : List UInt8) : inB p (j + 1) n = (inB p j n || p[j].n == n) := by
  unfold inB
  rw [List.take_succ_eq_append_getElem h, List.any_append]
  simp
theorem inB_all {p : List PS} {n : List UInt8} (h : ∃ s ∈ p, s.n = n) : inB p p.length n = true := by
  obtain ⟨s, hs, e⟩ := h
  unfold inB
  rw [List.take_length, List.any_eq_true]
  exact ⟨s, hs, by simp [e]⟩
attribute [irreducible] inB
end Go.Proofs.YtdpoalbbcmkceaaGreatDoor
/- Contract of files.Plan. -/
namespace Go.Proofs.YtdpoalbbcmkceaaGreatDoor
open Go.RowKit
set_option linter.unusedVariables false

set_option maxRecDepth 100000 in
set_option maxHeartbeats 6400000 in
theorem flplan_no1 (E : Nat → Addr) (a : List PL) (v1 v2 : Value) (w : World) (h1 : SliceIs w v1 3 (lcells a)) (d1 : ∀ x ∈ a, x.n.length ≤ maxLen) (l1 : a.length ≤ 1000000000) (hB : Has E w 2) (hN : Has E w 5) (hF : Has E w 8) (hO : Has E w 9) (hf : (lnFault a).1 ≠ 0) :
    Calls Tryz.prog 53 #[v1, v2] w fun e w' => ∃ r, e = .returned (.tuple #[.slice none 0 0, r]) ∧ FErr E w' r (lnFault a).1 (lnFault a).2 ∧ Below w.heap.size w w' := by
  have HCH := Lib.hid (fllines_any E a v1 w h1 d1 l1 hB hN hF hO)
  have HOK := Lib.hid hf
  clear h1 hB hN hF hO hf
  go_enter Tryz.func53, Tryz.ntmps53
  go_wp2_with fail
  refine HCH.out.mono ?_
  rintro e w1 ⟨r, rfl, fe, b1⟩
  have FE := Lib.hid fe
  obtain ⟨t, p, rfl⟩ := fe.some HOK.out
  have HBB := Lib.hid b1
  clear fe b1 HCH
  go_wp2_with fail
  go_ret2
  exact ⟨_, rfl, FE.out, HBB.out⟩
set_option maxRecDepth 100000 in
set_option maxHeartbeats 6400000 in
theorem flplan_no2 (E : Nat → Addr) (a t : List PL) (v1 v2 : Value) (w : World) (h1 : SliceIs w v1 3 (lcells a)) (h2 : SliceIs w v2 3 (lcells t)) (d1 : ∀ x ∈ a, x.n.length ≤ maxLen) (d2 : ∀ x ∈ t, x.n.length ≤ maxLen) (l1 : a.length ≤ 1000000000) (l2 : t.length ≤ 1000000000) (hB : Has E w 2) (hN : Has E w 5) (hF : Has E w 8) (hO : Has E w 9) (ha : (lnFault a).1 = 0) (hf : (lnFault t).1 ≠ 0) :
    Calls Tryz.prog 53 #[v1, v2] w fun e w' => ∃ r, e = .returned (.tuple #[.slice none 0 0, r]) ∧ FErr E w' r (lnFault t).1 (lnFault t).2 ∧ Below w.heap.size w w' := by
  have CH := fllines_any E a v1 w h1 d1 l1 hB hN hF hO
  rw [ha] at CH
  have HCH := Lib.hid CH
  have HC2 := Lib.hid (fun (w' : World) (b : Below w.heap.size w w') => fllines_any E t v2 w' (h2.below b) d2 l2 (hB.below b) (hN.below b) (hF.below b) (hO.below b))
  have HOK := Lib.hid hf
  clear h1 h2 hB hN hF hO hf CH
  go_enter Tryz.func53, Tryz.ntmps53
  go_wp2_with fail
  refine HCH.out.mono ?_
  rintro e w1 ⟨r, rfl, fe, b1⟩
  obtain rfl := fe.zero
  clear fe HCH
  go_wp2_with fail
  refine (HC2.out _ b1).mono ?_
  rintro e w2 ⟨r, rfl, fe, b2⟩
  have FE := Lib.hid fe
  obtain ⟨t, p, rfl⟩ := fe.some HOK.out
  have HBB := Lib.hid (below_trans' b1 b2)
  clear fe b1 b2 HC2
  go_wp2_with fail
  go_ret2
  exact ⟨_, rfl, FE.out, HBB.out⟩
set_option maxRecDepth 100000 in
set_option maxHeartbeats 6400000 in
theorem flplan_yes (E : Nat → Addr) (a t : List PL) (v1 v2 : Value) (w : World) (h1 : SliceIs w v1 3 (lcells a)) (h2 : SliceIs w v2 3 (lcells t)) (ha : LWF a) (ht : LWF t) (hB : Has E w 2) (hN : Has E w 5) (hF : Has E w 8) (hO : Has E w 9) :
    Calls Tryz.prog 53 #[v1, v2] w fun e w' => ∃ r, e = .returned (.tuple #[r, .nilIface]) ∧ w'.ownsRow w.heap.size 106 2 r (planL a t).length (scells (planL a t)) ∧ Below w.heap.size w w' := by
  have hfa := ha.few
  have hft := ht.few
  have hna : ∀ x ∈ a, x.n.length ≤ maxLen := fun x hx => by have := ((nameB_iff _).1 (ha.each x hx).1).2.1; unfold maxLen; omega
  have hnt : ∀ x ∈ t, x.n.length ≤ maxLen := fun x hx => by have := ((nameB_iff _).1 (ht.each x hx).1).2.1; unfold maxLen; omega
  have CH := fllines_any E a v1 w h1 hna (by omega) hB hN hF hO
  rw [(lnFault_wf a).2 ha] at CH
  have HCH := Lib.hid CH
  have C2 := fun (w' : World) (b : Below w.heap.size w w') => fllines_any E t v2 w' (h2.below b) hnt (by omega) (hB.below b) (hN.below b) (hF.below b) (hO.below b)
  rw [(lnFault_wf t).2 ht] at C2
  have HC2 := Lib.hid C2
  have HPL := Lib.hid (planL_le a t)
  have H1 := Lib.hid h1
  have H2 := Lib.hid h2
  obtain ⟨i0, hi, hz0, hz1, hz2⟩ := info_parts infoStep
  obtain ⟨sa, na, ca, rfl, qa⟩ := h1.get
  obtain ⟨st, nt, ct, rfl, qt⟩ := h2.get
  clear qa qt
  clear h1 h2 hB hN hF hO CH C2 hna hnt
  go_enter Tryz.func53, Tryz.ntmps53
  go_wp2_with fail
  refine HCH.out.mono ?_
  rintro e w1 ⟨r, rfl, fe, b1⟩
  obtain rfl := fe.zero
  clear fe HCH
  go_wp2_with fail
  refine (HC2.out _ b1).mono ?_
  rintro e w2 ⟨r, rfl, fe, b2⟩
  obtain rfl := fe.zero
  have B2 := Lib.hid (below_trans' b1 b2)
  clear fe b1 b2 HC2
  go_wp2_with fail
  go_loopw [0, 1, 8, 9, 10, 11] (fun f o r _ _ _ wr => ∃ (A T : List PL) (D : List PS) (s1 s2 : Option Addr) (n1 c1 n2 c2 : Nat), f = .slice s1 n1 c1 ∧ o = .slice s2 n2 c2 ∧ SliceIs w (.slice s1 n1 c1) 3 (lcells A) ∧ SliceIs w (.slice s2 n2 c2) 3 (lcells T) ∧ A.length ≤ 20 ∧ T.length ≤ 20 ∧ D ++ planL A T = planL a t ∧ wr.ownsRow w.heap.size 106 2 r D.length (scells D) ∧ Below w.heap.size w wr) (fun f o _ _ _ _ _ => lenOf f + lenOf o)
  case atStart => exact ⟨a, t, [], sa, st, na, ca, nt, ct, rfl, rfl, H1.out, H2.out, by omega, by omega, rfl, by rw [scells_nil]; exact World.ownsRow_nil _ _ _ _, B2.out⟩
  case round =>
    obtain ⟨A, T, D, s1, s2, n1, c1, n2, c2, rfl, rfl, q1, q2, u1, u2, hinv, hown, bel⟩ := hrel
    obtain ⟨m1, m2, m3⟩ := lines_len q1
    obtain ⟨p1, p2, p3⟩ := lines_len q2
    unfold maxLen at m3 p3
    have hDl : D.length + (planL A T).length = (planL a t).length := by rw [← hinv, List.length_append]
    have hPl := HPL.out
    have BW := Lib.hid bel
    have HO := Lib.hid hown
    have Q1 := Lib.hid q1
    have Q2 := Lib.hid q2
    obtain ⟨va, vc, rfl⟩ := owns_slice hown
    clear bel hown q1 q2
    by_cases hn : A = [] ∧ T = []
    · obtain ⟨rfl, rfl⟩ := hn
      rw [List.length_nil] at m1 p1
      subst m1 p1
      clear u1 u2 hPl hDl
      have hD : D = planL a t := by rw [← hinv, planL_none, List.append_nil]
      subst hD
      go_wp2_with fail
      go_ret2
      exact ⟨_, rfl, HO.out, BW.out⟩
    · have hST := planL_step hn
      obtain ⟨z1, z2, z3⟩ := stepL_bd A T
      have z3 := z3 hn
      have ST := Lib.hid (fun (w' : World) h1 h2 => flstep_any A T (.slice s1 n1 c1) (.slice s2 n2 c2) w' h1 h2 hn)
      obtain ⟨sH, nH, cH, rH, g1⟩ := lines_head Q1.out (stepL A T).2.1 (by omega)
      obtain ⟨sI, nI, cI, rI, g2⟩ := lines_head Q2.out (stepL A T).2.2 (by omega)
      obtain ⟨m1', _, _⟩ := lines_len g1
      obtain ⟨p1', _, _⟩ := lines_len g2
      rw [List.length_drop] at m1' p1'
      subst m1 p1 m1' p1'
      have hsum : (0 : Int) < (A.length : Int) + T.length := by omega
      generalize stepL A T = s at *
      obtain ⟨x, k1, k2⟩ := s
      obtain ⟨xk, xn⟩ := x
      simp only [PS.val_is] at ST hST rH rI g1 g2 z1 z2 z3
      have Y := Lib.hid (show (D ++ [⟨xk, xn⟩]) ++ planL (A.drop k1) (T.drop k2) = planL a t by rw [List.append_assoc, ← hST]; exact hinv)
      have G1 := Lib.hid g1
      have G2 := Lib.hid g2
      have hst : (planL A T).length ≥ 1 := by rw [hST]; simp
      have HN1 : Hid (D.length + 1 ≤ maxLen) := by show _ ≤ _; unfold maxLen; omega
      have HN2 : Hid ((D.length + 1) * 32 ≤ 140737488355328) := by show _ ≤ _; omega
      clear hinv hST g1 g2 hst hDl hPl
      go_wp2_with fail
      refine (ST.out _ (Q1.out.below BW.out) (Q2.out.below BW.out)).mono ?_
      rintro e w3 ⟨rfl, b3⟩
      have HO3 := Lib.hid (owns_below HO.out b3)
      have B3 := Lib.hid (below_trans' BW.out b3)
      have BX := Lib.hid b3
      clear b3
      have NEWB : Hid (((w3.alloc (.cells #[.string (bs xk), .string (bs xn)] 106)).alloc (.cells #[.string (bs xk), .string (bs xn)] 106)).heap[w3.heap.size + 1]? = some (.cells #[.string (bs xk), .string (bs xn)] 106 (0, 0))) := by
        have h := heap_alloc_new (w3.alloc (.cells #[.string (bs xk), .string (bs xn)] 106)) (.cells #[.string (bs xk), .string (bs xn)] 106)
        have e : (w3.alloc (.cells #[.string (bs xk), .string (bs xn)] 106)).heap.size = w3.heap.size + 1 := by simp
        rw [e] at h; exact h
      go_wp2_with (at_builtin; refine wpList_append_is rfl (.tmp 35) (.tmp 37) 102 rfl w.heap.size 106 i0 _ 2 32 Tryz.underlying102 hi hz0 hz1 hz2 rfl (by decide) _ D.length _ rfl ((HO3.out.alloc _).alloc _) _ 1 [.string (bs xk), .string (bs xn)] rfl (slice_oneS NEWB.out) rfl (fun u hu => by simp at hu; rcases hu with rfl | rfl <;> rfl) HN1.out HN2.out (by have := B3.out.size; simp; omega) ?_; intro v' w5 hown5 hgrow _; have HO5 := Lib.hid hown5; have B5 := Lib.hid (((B3.out.alloc B3.out.size _).alloc (B3.out.alloc B3.out.size _).size _).grown hgrow (by have := B3.out.size; simp; omega) (fun j hj => (HO3.out.lt j hj).1)); clear hown5 hgrow)
      go_region_law (fail)
      all_goals
        simp [go_sem, Act.put]
        go_wp2_with fail
        go_roundw
        case rel => exact ⟨A.drop k1, T.drop k2, D ++ [⟨xk, xn⟩], _, _, _, _, _, _, rfl, rfl, G1.out, G2.out, by rw [List.length_drop]; omega, by rw [List.length_drop]; omega, Y.out, by rw [scells_append, scells_one, List.length_append]; exact HO5.out, below_drewN B5.out 1⟩
        case measure => simp [lenOf]; omega
end Go.Proofs.YtdpoalbbcmkceaaGreatDoor
/- Plain laws: what FilesKeep asks of plans that are done. No program is in sight. -/
namespace Go.Proofs.YtdpoalbbcmkceaaGreatDoor
open Go.RowKit
set_option linter.unusedVariables false

theorem plan_same : ∀ (a : List PL), planL a a = a.map fun x => (⟨kKeep, x.n⟩ : PS)
  | [] => planL_none
  | x :: a => by
    rw [planL_step (by simp), step_same rfl]
    show [(⟨kKeep, x.n⟩ : PS)] ++ planL ((x :: a).drop 1) ((x :: a).drop 1) = _
    rw [List.drop_succ_cons, List.drop_zero, plan_same a]; rfl
theorem same_len (a : List PL) : (planL a a).length = a.length := by rw [plan_same, List.length_map]
theorem same_kind (a : List PL) (k : Nat) (h : k < (planL a a).length) : (planL a a)[k].k = kKeep := by
  have : ∀ s ∈ planL a a, s.k = kKeep := by
    rw [plan_same]; intro s hs
    obtain ⟨x, _, rfl⟩ := List.mem_map.1 hs; rfl
  exact this _ (List.getElem_mem h)

def Sr (l : List PF) : Prop := l.Pairwise fun a b => ltL a.n b.n = true
theorem Sr.inj {l : List PF} (h : Sr l) {f g : PF} (hf : f ∈ l) (hg : g ∈ l) (e : f.n = g.n) : f = g := by
  have h1 := fgetL_of h hf
  have h2 := fgetL_of h hg
  rw [e, h2] at h1
  cases f; cases g
  simp only [] at e h1
  injection h1 with h1
  rw [e, h1]
theorem put_mem {l : List PF} (hs : Sr l) (n d : List UInt8) (g : PF) : g ∈ fputL l n d ↔ g = ⟨n, d⟩ ∨ (g ∈ l ∧ g.n ≠ n) := by
  induction l with
  | nil => simp [fputL]
  | cons f l ih =>
    have hp := List.pairwise_cons.1 hs
    unfold fputL
    by_cases h1 : f.n = n
    · rw [if_pos h1]
      constructor
      · intro h
        rcases List.mem_cons.1 h with h | h
        · exact .inl h
        · exact .inr ⟨List.mem_cons_of_mem _ h, by rw [← h1]; exact fun e => ltL_ne (hp.1 g h) e.symm⟩
      · rintro (h | ⟨h, hn⟩)
        · rw [h]; simp
        · rcases List.mem_cons.1 h with h | h
          · rw [h] at hn; exact absurd h1 hn
          · exact List.mem_cons_of_mem _ h
    · rw [if_neg h1]
      by_cases h2 : ltL n f.n = true
      · rw [if_pos h2]
        constructor
        · intro h
          rcases List.mem_cons.1 h with h | h
          · exact .inl h
          · refine .inr ⟨h, ?_⟩
            rcases List.mem_cons.1 h with h | h
            · rw [h]; exact h1
            · exact fun e => ltL_ne (ltL_trans h2 (hp.1 g h)) e.symm
        · rintro (h | ⟨h, hn⟩)
          · rw [h]; simp
          · exact List.mem_cons_of_mem _ h
      · rw [if_neg h2]
        constructor
        · intro h
          rcases List.mem_cons.1 h with h | h
          · rw [h]; exact .inr ⟨by simp, h1⟩
          · rcases (ih hp.2).1 h with h | ⟨h, hn⟩
            · exact .inl h
            · exact .inr ⟨List.mem_cons_of_mem _ h, hn⟩
        · rintro (h | ⟨h, hn⟩)
          · exact List.mem_cons_of_mem _ ((ih hp.2).2 (.inl h))
          · rcases List.mem_cons.1 h with h | h
            · rw [h]; simp
            · exact List.mem_cons_of_mem _ ((ih hp.2).2 (.inr ⟨h, hn⟩))
theorem put_get_self {l : List PF} (hs : Sr l) (n d : List UInt8) : fgetL (fputL l n d) n = some d :=
  fgetL_of (fputL_sorted n d hs) ((put_mem hs n d ⟨n, d⟩).2 (.inl rfl))
theorem put_get {l : List PF} (hs : Sr l) (n d : List UInt8) {f : PF} (hf : f ∈ l) : ∃ s, fgetL (fputL l n d) f.n = some s ∧ (f.n ≠ n → s = f.d) := by
  by_cases h : f.n = n
  · exact ⟨d, by rw [h]; exact put_get_self hs n d, fun e => absurd h e⟩
  · exact ⟨f.d, fgetL_of (fputL_sorted n d hs) ((put_mem hs n d f).2 (.inr ⟨hf, h⟩)), fun _ => rfl⟩

def dropsTo (q : List PS) (l : List PF) : List PF := q.foldl (fun l s => if s.k = kDrop then dropL l s.n else l) l
theorem dropsTo_nil (l : List PF) : dropsTo [] l = l := rfl
theorem dropsTo_hit {p : List PS} {k : Nat} (h : k < p.length) (e : p[k].k = kDrop) (l : List PF) : dropsTo (p.take (k + 1)) l = dropL (dropsTo (p.take k) l) p[k].n := by
  unfold dropsTo; rw [List.take_succ_eq_append_getElem h, List.foldl_append]; simp [e]
theorem dropsTo_miss {p : List PS} {k : Nat} (h : k < p.length) (e : p[k].k ≠ kDrop) (l : List PF) : dropsTo (p.take (k + 1)) l = dropsTo (p.take k) l := by
  unfold dropsTo; rw [List.take_succ_eq_append_getElem h, List.foldl_append]; simp [e]
theorem FWF.drops (q : List PS) : ∀ {l : List PF}, FWF l → FWF (dropsTo q l) := by
  induction q with
  | nil => intro l h; exact h
  | cons s q ih =>
    intro l h
    show FWF (dropsTo q (if s.k = kDrop then dropL l s.n else l))
    apply ih
    split
    · exact h.filter _
    · exact h
theorem dropsTo_mem (q : List PS) : ∀ (l : List PF) (f : PF), f ∈ dropsTo q l ↔ f ∈ l ∧ ∀ s ∈ q, s.k = kDrop → s.n ≠ f.n := by
  induction q with
  | nil => intro l f; simp [dropsTo]
  | cons s q ih =>
    intro l f
    show f ∈ dropsTo q (if s.k = kDrop then dropL l s.n else l) ↔ _
    rw [ih]
    by_cases h : s.k = kDrop
    · rw [if_pos h]
      unfold dropL
      rw [List.mem_filter]
      constructor
      · rintro ⟨⟨h1, h2⟩, h3⟩
        refine ⟨h1, fun t ht hk => ?_⟩
        rcases List.mem_cons.1 ht with rfl | ht
        · intro e; rw [e] at h2; simp at h2
        · exact h3 t ht hk
      · rintro ⟨h1, h2⟩
        exact ⟨⟨h1, by have := h2 s (by simp) h; simpa using fun e => this e.symm⟩, fun t ht hk => h2 t (by simp [ht]) hk⟩
    · rw [if_neg h]
      constructor
      · rintro ⟨h1, h2⟩
        refine ⟨h1, fun t ht hk => ?_⟩
        rcases List.mem_cons.1 ht with rfl | ht
        · exact absurd hk h
        · exact h2 t ht hk
      · rintro ⟨h1, h2⟩
        exact ⟨h1, fun t ht hk => h2 t (by simp [ht]) hk⟩

def datOf (l : List PF) (n : List UInt8) : List UInt8 := (fgetL l n).getD []
def putsTo (c : List PF) (q : List PS) (l : List PF) : List PF := q.foldl (fun l s => if s.k = kSend then fputL l s.n (datOf c s.n) else l) l
theorem putsTo_nil (c l : List PF) : putsTo c [] l = l := rfl
theorem putsTo_hit (c : List PF) {p : List PS} {k : Nat} (h : k < p.length) (e : p[k].k = kSend) (l : List PF) : putsTo c (p.take (k + 1)) l = fputL (putsTo c (p.take k) l) p[k].n (datOf c p[k].n) := by
  unfold putsTo; rw [List.take_succ_eq_append_getElem h, List.foldl_append]; simp [e]
theorem putsTo_miss (c : List PF) {p : List PS} {k : Nat} (h : k < p.length) (e : p[k].k ≠ kSend) (l : List PF) : putsTo c (p.take (k + 1)) l = putsTo c (p.take k) l := by
  unfold putsTo; rw [List.take_succ_eq_append_getElem h, List.foldl_append]; simp [e]
/-- a list that is well, of names of another one -/
structure Keeps (c l : List PF) : Prop where
  wf : FWF l
  names : ∀ f ∈ l, ∃ x ∈ c, x.n = f.n
theorem Keeps.put {c l : List PF} (hc : FWF c) (h : Keeps c l) {n u : List UInt8} (hu : fgetL c n = some u) : Keeps c (fputL l n u) := by
  have hm := fgetL_some hu
  obtain ⟨h1, h2⟩ := hc.each _ hm
  have hnm : ∀ f ∈ fputL l n u, ∃ x ∈ c, x.n = f.n := fun f hf => by
    rcases (put_mem h.wf.sorted n u f).1 hf with rfl | ⟨hf, _⟩
    · exact ⟨_, hm, rfl⟩
    · exact h.names f hf
  have hlen : (fputL l n u).length ≤ 20 := by
    have := nodup_sub (names_nodup (fputL_sorted n u h.wf.sorted)) (b := c.map PF.n) (fun y hy => by
      obtain ⟨f, hf, rfl⟩ := List.mem_map.1 hy
      obtain ⟨x, hx, e⟩ := hnm f hf
      exact List.mem_map.2 ⟨x, hx, e⟩)
    rw [List.length_map, List.length_map] at this
    exact Nat.le_trans this hc.few
  exact ⟨h.wf.put h1 h2 hlen, hnm⟩
theorem putsTo_mem {c l : List PF} (hc : FWF c) (hl : Keeps c l) : ∀ (q : List PS), (∀ s ∈ q, s.k = kSend → ∃ u, fgetL c s.n = some u) → Keeps c (putsTo c q l) ∧ ∀ f, f ∈ putsTo c q l ↔ (∃ s ∈ q, s.k = kSend ∧ f = ⟨s.n, datOf c s.n⟩) ∨ (f ∈ l ∧ ∀ s ∈ q, s.k = kSend → s.n ≠ f.n) := by
  intro q
  induction q generalizing l with
  | nil => intro _; exact ⟨hl, fun f => by simp [putsTo]⟩
  | cons s q ih =>
    intro hq
    have hq' : ∀ t ∈ q, t.k = kSend → ∃ u, fgetL c t.n = some u := fun t ht => hq t (by simp [ht])
    show Keeps c (putsTo c q (if s.k = kSend then fputL l s.n (datOf c s.n) else l)) ∧ ∀ f, f ∈ putsTo c q (if s.k = kSend then fputL l s.n (datOf c s.n) else l) ↔ _
    by_cases h : s.k = kSend
    · rw [if_pos h]
      obtain ⟨u, hu⟩ := hq s (by simp) h
      have hd : datOf c s.n = u := by unfold datOf; rw [hu]; rfl
      obtain ⟨h1, h2⟩ := ih (by rw [hd]; exact hl.put hc hu : Keeps c (fputL l s.n (datOf c s.n))) hq'
      refine ⟨h1, fun f => ?_⟩
      rw [h2, put_mem hl.wf.sorted]
      constructor
      · rintro (⟨t, ht, hk, e⟩ | ⟨rfl | ⟨hf, hn⟩, h3⟩)
        · exact .inl ⟨t, by simp [ht], hk, e⟩
        · exact .inl ⟨s, by simp, h, rfl⟩
        · refine .inr ⟨hf, fun t ht hk => ?_⟩
          rcases List.mem_cons.1 ht with rfl | ht
          · exact fun e => hn e.symm
          · exact h3 t ht hk
      · rintro (⟨t, ht, hk, e⟩ | ⟨hf, h3⟩)
        · rcases List.mem_cons.1 ht with rfl | ht
          · by_cases hx : ∃ t' ∈ q, t'.k = kSend ∧ t'.n = t.n
            · obtain ⟨t', ht', hk', e'⟩ := hx
              exact .inl ⟨t', ht', hk', by rw [e', e]⟩
            · exact .inr ⟨.inl e, fun t' ht' hk' e' => hx ⟨t', ht', hk', by rw [e', e]⟩⟩
          · exact .inl ⟨t, ht, hk, e⟩
        · exact .inr ⟨.inr ⟨hf, fun e => h3 s (by simp) h e.symm⟩, fun t ht hk => h3 t (by simp [ht]) hk⟩
    · rw [if_neg h]
      obtain ⟨h1, h2⟩ := ih hl hq'
      refine ⟨h1, fun f => ?_⟩
      rw [h2]
      constructor
      · rintro (⟨t, ht, hk, e⟩ | ⟨hf, h3⟩)
        · exact .inl ⟨t, by simp [ht], hk, e⟩
        · refine .inr ⟨hf, fun t ht hk => ?_⟩
          rcases List.mem_cons.1 ht with rfl | ht
          · exact absurd hk h
          · exact h3 t ht hk
      · rintro (⟨t, ht, hk, e⟩ | ⟨hf, h3⟩)
        · rcases List.mem_cons.1 ht with rfl | ht
          · exact absurd hk h
          · exact .inl ⟨t, ht, hk, e⟩
        · exact .inr ⟨hf, fun t ht hk => h3 t (by simp [ht]) hk⟩
theorem lines_unique {p q : List PL} (hp : Srt p) (hq : Srt q) (h : ∀ s, s ∈ p ↔ s ∈ q) : p = q := by
  induction p generalizing q with
  | nil =>
    cases q with
    | nil => rfl
    | cons s q => have := (h s).2 (by simp); cases this
  | cons s p ih =>
    cases q with
    | nil => have := (h s).1 (by simp); cases this
    | cons r q =>
      have hp' := Srt.cons.1 hp
      have hq' := Srt.cons.1 hq
      have e : s = r := by
        rcases List.mem_cons.1 ((h s).1 (by simp)) with e | e
        · exact e
        · rcases List.mem_cons.1 ((h r).2 (by simp)) with e2 | e2
          · exact e2.symm
          · have a := hq'.1 s e
            have b := hp'.1 r e2
            rw [ltL_asymm a] at b; cases b
      subst e
      rw [ih hp'.2 hq'.2 fun u => ?_]
      constructor
      · intro hu
        rcases List.mem_cons.1 ((h u).1 (List.mem_cons_of_mem _ hu)) with e | e
        · subst e; exact absurd rfl (ltL_ne (hp'.1 u hu))
        · exact e
      · intro hu
        rcases List.mem_cons.1 ((h u).2 (List.mem_cons_of_mem _ hu)) with e | e
        · subst e; exact absurd rfl (ltL_ne (hq'.1 u hu))
        · exact e
theorem Srt.inj {l : List PL} (h : Srt l) {x y : PL} (hx : x ∈ l) (hy : y ∈ l) (e : x.n = y.n) : x = y := by
  induction l with
  | nil => cases hx
  | cons z l ih =>
    have h' := Srt.cons.1 h
    rcases List.mem_cons.1 hx with e1 | hx1 <;> rcases List.mem_cons.1 hy with e2 | hy1
    · rw [e1, e2]
    · rw [e1] at e; exact absurd e (ltL_ne (h'.1 y hy1))
    · rw [e2] at e; exact absurd e.symm (ltL_ne (h'.1 x hx1))
    · exact ih h'.2 hx1 hy1
/-- the drops leave names of the first list alone -/
theorem drops_keeps {c t : List PF} (hc : FWF c) (ht : FWF t) : Keeps c (dropsTo (planL (c.map PF.line) (t.map PF.line)) t) := by
  have P := planL_law hc.lines.sorted ht.lines.sorted
  refine ⟨ht.drops _, fun f hf => ?_⟩
  obtain ⟨h1, h2⟩ := (dropsTo_mem _ _ _).1 hf
  by_cases h : ∃ x ∈ c, x.n = f.n
  · exact h
  · have := P.drop f.line (List.mem_map.2 ⟨f, h1, rfl⟩) (fun x hx e => by
      obtain ⟨g, hg, rfl⟩ := List.mem_map.1 hx
      exact h ⟨g, hg, e⟩)
    exact absurd rfl (h2 _ this rfl)
theorem sends_get {c t : List PF} (hc : FWF c) (ht : FWF t) : ∀ s ∈ planL (c.map PF.line) (t.map PF.line), s.k = kSend → ∃ u, fgetL c s.n = some u := by
  intro s hs hk
  rcases back_law hc ht s hs with ⟨_, u, hu, _⟩ | ⟨h, _⟩ | ⟨h, _⟩
  · exact ⟨u, hu⟩
  · rw [h] at hk; exact absurd hk (by decide)
  · rw [h] at hk; exact absurd hk (by decide)
/-- done by the plan, there is just what there was to be -/
theorem keep_law {c t : List PF} (hc : FWF c) (ht : FWF t) :
    (putsTo c (planL (c.map PF.line) (t.map PF.line)) (dropsTo (planL (c.map PF.line) (t.map PF.line)) t)).map PF.line = c.map PF.line := by
  have P := planL_law hc.lines.sorted ht.lines.sorted
  have SG := sends_get hc ht
  have DK := drops_keeps hc ht
  generalize hp : planL (c.map PF.line) (t.map PF.line) = p at *
  obtain ⟨K, M⟩ := putsTo_mem hc DK p SG
  refine lines_unique K.wf.lines.sorted hc.lines.sorted fun x => ?_
  constructor
  · intro hx
    obtain ⟨f, hf, rfl⟩ := List.mem_map.1 hx
    rcases (M f).1 hf with ⟨s, hs, hk, e⟩ | ⟨hf, h3⟩
    · obtain ⟨u, hu⟩ := SG s hs hk
      have hm := fgetL_some hu
      have hd : datOf c s.n = u := by unfold datOf; rw [hu]; rfl
      rw [e, hd]
      exact List.mem_map.2 ⟨_, hm, rfl⟩
    · obtain ⟨x, hx, e⟩ := DK.names f hf
      obtain ⟨hft, _⟩ := (dropsTo_mem _ _ _).1 hf
      have hxl : x.line ∈ c.map PF.line := List.mem_map.2 ⟨x, hx, rfl⟩
      by_cases hb : x.line ∈ t.map PF.line
      · have := Srt.inj ht.lines.sorted hb (List.mem_map.2 ⟨f, hft, rfl⟩) e
        rw [← this]; exact hxl
      · exact absurd e (h3 _ ((P.all _ hxl).1 hb) rfl)
  · intro hx
    obtain ⟨f, hf, rfl⟩ := List.mem_map.1 hx
    by_cases hb : f.line ∈ t.map PF.line
    · obtain ⟨g, hg, e⟩ := List.mem_map.1 hb
      have en : g.n = f.n := congrArg PL.n e
      refine List.mem_map.2 ⟨g, (M g).2 (.inr ⟨(dropsTo_mem _ _ _).2 ⟨hg, fun s hs hk hn => ?_⟩, fun s hs hk hn => ?_⟩), e⟩
      · rcases P.of s hs with ⟨h, _⟩ | ⟨h, _⟩ | ⟨_, _, h3⟩
        · rw [h] at hk; exact absurd hk (by decide)
        · rw [h] at hk; exact absurd hk (by decide)
        · exact h3 f.line (List.mem_map.2 ⟨f, hf, rfl⟩) (by rw [hn]; exact en.symm)
      · rcases P.of s hs with ⟨_, x, hxa, hxn, hxb⟩ | ⟨h, _⟩ | ⟨h, _⟩
        · have := Srt.inj hc.lines.sorted hxa (List.mem_map.2 ⟨f, hf, rfl⟩) (by rw [hxn, hn]; exact en)
          rw [this] at hxb; exact hxb hb
        · rw [h] at hk; exact absurd hk (by decide)
        · rw [h] at hk; exact absurd hk (by decide)
    · have hs := (P.all _ (List.mem_map.2 ⟨f, hf, rfl⟩)).1 hb
      have hd : datOf c f.n = f.d := by unfold datOf; rw [fgetL_of hc.sorted hf]; rfl
      exact List.mem_map.2 ⟨f, (M f).2 (.inl ⟨_, hs, rfl, by show f = ⟨f.n, datOf c f.n⟩; rw [hd]⟩), rfl⟩
end Go.Proofs.YtdpoalbbcmkceaaGreatDoor
