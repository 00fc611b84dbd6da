/- Texts of one proof, one behind the other: FilPlan, FilPlan2, FilRead, FilBackP. -/
import Derived.Test.YtppkeophochgiaaGreatDoorB14
import Derived.Test.YtppkeophochgiaaGreatDoorB12
import Derived.Test.YtppkeophochgiaaGreatDoorB08
/- Contract of files.Plan. -/
namespace Go.Proofs.YtppkeophochgiaaGreatDoor
open Go.RowKit
set_option linter.unusedVariables false

/-! ### plans in plain words -/
theorem planF_fuel : ∀ (f : Nat) (a t : List PL), a.length + t.length ≤ f → planF f a t = planF (a.length + t.length) a t
  | 0, a, t, h => by
    have h1 : a = [] := List.eq_nil_of_length_eq_zero (by omega)
    have h2 : t = [] := List.eq_nil_of_length_eq_zero (by omega)
    subst h1 h2; rfl
  | f + 1, a, t, h => by
    by_cases hn : a = [] ∧ t = []
    · obtain ⟨rfl, rfl⟩ := hn
      rw [planF_end, planF_end]
    · obtain ⟨b1, b2, b3⟩ := stepL_bd a t
      have b3 := b3 hn
      have hpos : 0 < a.length + t.length := by
        cases a with
        | nil => cases t with
          | nil => exact absurd ⟨rfl, rfl⟩ hn
          | cons => simp
        | cons => simp; omega
      obtain ⟨g, hg⟩ : ∃ g, a.length + t.length = g + 1 := ⟨a.length + t.length - 1, by omega⟩
      rw [planF_step hn, hg, planF_step hn]
      congr 1
      have e1 : (a.drop (stepL a t).2.1).length + (t.drop (stepL a t).2.2).length ≤ g := by rw [List.length_drop, List.length_drop]; omega
      rw [planF_fuel f _ _ (by omega), planF_fuel g _ _ e1]
termination_by f => f
decreasing_by all_goals omega
theorem planL_step {a t : List PL} (h : ¬ (a = [] ∧ t = [])) : planL a t = [(stepL a t).1] ++ planL (a.drop (stepL a t).2.1) (t.drop (stepL a t).2.2) := by
  obtain ⟨b1, b2, b3⟩ := stepL_bd a t
  have b3 := b3 h
  have e1 : (a.drop (stepL a t).2.1).length + (t.drop (stepL a t).2.2).length = a.length + t.length - ((stepL a t).2.1 + (stepL a t).2.2) := by rw [List.length_drop, List.length_drop]; omega
  obtain ⟨g, hg⟩ : ∃ g, a.length + t.length = g + 1 := ⟨a.length + t.length - 1, by omega⟩
  unfold planL
  rw [hg, planF_step h, planF_fuel g _ _ (by omega)]
  rfl
theorem planL_none : planL [] [] = [] := planF_end _
theorem planL_len (a t : List PL) : ∀ f, (planF f a t).length ≤ f := by
  intro f
  induction f generalizing a t with
  | zero => simp [planF]
  | succ f ih =>
    unfold planF
    split
    · simp
    · simp only [List.length_cons]; have := ih (a.drop (stepL a t).2.1) (t.drop (stepL a t).2.2); omega
theorem planL_le (a t : List PL) : (planL a t).length ≤ a.length + t.length := planL_len a t _

/-! ### rows of steps -/
def sk0 (s : PS) : Value := .string (bs s.k)
def sk1 (s : PS) : Value := .string (bs s.n)
def scells (l : List PS) : List Value := rowc sk0 sk1 l
theorem scells_get (l : List PS) (k : Nat) (h : k < l.length) : (scells l)[k * 2]? = some (.string (bs l[k].k)) ∧ (scells l)[k * 2 + 1]? = some (.string (bs l[k].n)) := rowc_get _ _ l k h
theorem scells_nil : scells [] = [] := rfl
theorem scells_append (l m : List PS) : scells (l ++ m) = scells l ++ scells m := rowc_append _ _ l m
theorem scells_one (s : PS) : scells [s] = [.string (bs s.k), .string (bs s.n)] := rfl
attribute [irreducible] scells
theorem infoStep : (Tryz.prog.info? 185).map (fun i => (i.zero, i.size, i.bytes)) = some (some (.agg #[.string ⟨#[]⟩, .string ⟨#[]⟩]), 2, 32) := by kernel_rfl
theorem slice_oneS {w : World} {b : Nat} {x y : Value} (h : w.heap[b]? = some (.cells #[x, y] 185 (0, 0))) : SliceIs w (.slice (some ⟨b, 0, none⟩) 1 1) 2 [x, y] :=
  .inr ⟨_, 1, 1, rfl, Nat.le_refl _, by unfold maxLen; omega, rfl, fun j u' hj => by
    match j, hj with
    | 0, hj => simp at hj; subst hj; simp [World.cell?, h, Addr.add]
    | 1, hj => simp at hj; subst hj; simp [World.cell?, h, Addr.add]⟩

/-! ### a slice of lines is cut at its beginning -/
theorem lines_head {w : World} {s : Option Addr} {n c : Nat} {l : List PL} (h : SliceIs w (.slice s n c) 3 (lcells l)) (k : Nat) (hk : k ≤ n) :
    ∃ sH nH cH, (∀ w' : World, (Instr.slice 175 (.slice s n c) (some (.int .i64 k)) none none).run Tryz.prog w' = .ok (.slice sH nH cH) w') ∧ SliceIs w (.slice sH nH cH) 3 (lcells (l.drop k)) := by
  have hg := h.get
  obtain ⟨s', n', c', e, hn, h1, h2, hg⟩ := hg
  cases e
  rw [lcells_len] at hn
  have hln : l.length = n := by omega
  have h2' := h2
  unfold maxLen at h2'
  have hu : Tryz.prog.underlying 175 = some (.slice (Tryz.prog.elem 175)) := by kernel_rfl
  have hz : ∀ w' : World, (sizeOf (Tryz.prog.elem 175)).run Tryz.prog w' = .ok 3 w' := fun w' => by kernel_rfl
  refine ⟨_, n - k, c - k, fun w' => by
    rw [run_slice_l w' 175 s n c hu .i64 k (by omega) (by omega), hz]
    simp only [Result.andThen, sliced]
    rw [show ((k : Int)).toNat = k by omega], ?_⟩
  rcases s with _ | a
  · have hn0 : n = 0 := by
      rcases Nat.eq_zero_or_pos n with e | e
      · exact e
      · obtain ⟨g0, _, _⟩ := lcells_get l 0 (by omega)
        obtain ⟨a, e, _⟩ := hg _ _ g0
        cases e
    subst hn0
    have hl : l = [] := List.eq_nil_of_length_eq_zero hln
    subst hl
    obtain rfl : k = 0 := by omega
    rcases h with ⟨e1, e2⟩ | ⟨a, len, cap, e1, _⟩
    · cases e1; exact .inl ⟨by simp, by simp [lcells_nil]⟩
    · cases e1
  · have e0 : lcells l = lcells (l.take k) ++ lcells (l.drop k) := by rw [← lcells_append, List.take_append_drop]
    have e1 : (lcells (l.take k)).length = k * 3 := by rw [lcells_len, List.length_take]; omega
    have e2 : (lcells (l.drop k)).length = (n - k) * 3 := by rw [lcells_len, List.length_drop]; omega
    by_cases e : c = k
    · have hkn : k = n := by omega
      have hd : lcells (l.drop k) = [] := List.eq_nil_of_length_eq_zero (by rw [e2]; omega)
      rw [if_pos e, hd]
      exact .inr ⟨a, n - k, c - k, rfl, by omega, by omega, by simp; omega, fun i u hu => by simp at hu⟩
    · rw [if_neg e]
      refine .inr ⟨a.add (k * 3), n - k, c - k, rfl, by omega, by omega, e2, fun i u hu => ?_⟩
      rw [Addr.add_add]
      obtain ⟨a', ea, d⟩ := hg (k * 3 + i) u (by rw [e0, List.getElem?_append_right (by omega), e1, Nat.add_sub_cancel_left]; exact hu)
      cases ea
      exact d
theorem lines_len {w : World} {s : Option Addr} {n c : Nat} {l : List PL} (h : SliceIs w (.slice s n c) 3 (lcells l)) : n = l.length ∧ n ≤ c ∧ c ≤ maxLen := by
  obtain ⟨s', n', c', e, hn, h1, h2, _⟩ := h.get
  cases e
  rw [lcells_len] at hn
  exact ⟨by omega, h1, h2⟩
theorem step_cells {w : World} {ad : Addr} {n c : Nat} {l : List PS} (h : SliceIs w (.slice (some ad) n c) 2 (scells l)) {k : Nat} (hk : k < l.length) :
    w.cell? (ad.add (k * 2)) = some (.string (bs l[k].k)) ∧ w.cell? ⟨(ad.add (k * 2)).block, (ad.add (k * 2)).off + 1, none⟩ = some (.string (bs l[k].n)) := by
  obtain ⟨s', n', c', e, _, _, _, hg⟩ := h.get
  cases e
  obtain ⟨x0, x1⟩ := scells_get l k hk
  obtain ⟨a, e, d0⟩ := hg _ _ x0
  cases e
  obtain ⟨a, e, d1⟩ := hg _ _ x1
  cases e
  exact ⟨d0, cell_at d1⟩
end Go.Proofs.YtppkeophochgiaaGreatDoor
/- Contract of files.Plan. -/
namespace Go.Proofs.YtppkeophochgiaaGreatDoor
open Go.RowKit
set_option linter.unusedVariables false

set_option maxRecDepth 100000 in
set_option maxHeartbeats 6400000 in
theorem flplan_yes (E : Nat → Addr) (a t : List PL) (v1 v2 : Value) (w : World) (h1 : SliceIs w v1 3 (lcells a)) (h2 : SliceIs w v2 3 (lcells t)) (ha : LWF a) (ht : LWF t) (hB : Has E w 2) (hN : Has E w 5) (hF : Has E w 8) (hO : Has E w 9) :
    Calls Tryz.prog 109 #[v1, v2] w fun e w' => ∃ r, e = .returned (.tuple #[r, .nilIface]) ∧ w'.ownsRow w.heap.size 185 2 r (planL a t).length (scells (planL a t)) ∧ Below w.heap.size w w' := by
  have hfa := ha.few
  have hft := ht.few
  have hna : ∀ x ∈ a, x.n.length ≤ maxLen := fun x hx => by have := ((nameB_iff _).1 (ha.each x hx).1).2.1; unfold maxLen; omega
  have hnt : ∀ x ∈ t, x.n.length ≤ maxLen := fun x hx => by have := ((nameB_iff _).1 (ht.each x hx).1).2.1; unfold maxLen; omega
  have CH := fllines_any E a v1 w h1 hna (by omega) hB hN hF hO
  rw [(lnFault_wf a).2 ha] at CH
  have HCH := Lib.hid CH
  have C2 := fun (w' : World) (b : Below w.heap.size w w') => fllines_any E t v2 w' (h2.below b) hnt (by omega) (hB.below b) (hN.below b) (hF.below b) (hO.below b)
  rw [(lnFault_wf t).2 ht] at C2
  have HC2 := Lib.hid C2
  have HPL := Lib.hid (planL_le a t)
  have H1 := Lib.hid h1
  have H2 := Lib.hid h2
  obtain ⟨i0, hi, hz0, hz1, hz2⟩ := info_parts infoStep
  obtain ⟨sa, na, ca, rfl, qa⟩ := h1.get
  obtain ⟨st, nt, ct, rfl, qt⟩ := h2.get
  clear qa qt
  clear h1 h2 hB hN hF hO CH C2 hna hnt
  go_enter Tryz.func109, Tryz.ntmps109
  go_wp2_with fail
  refine HCH.out.mono ?_
  rintro e w1 ⟨r, rfl, fe, b1⟩
  obtain rfl := fe.zero
  clear fe HCH
  go_wp2_with fail
  refine (HC2.out _ b1).mono ?_
  rintro e w2 ⟨r, rfl, fe, b2⟩
  obtain rfl := fe.zero
  have B2 := Lib.hid (below_trans' b1 b2)
  clear fe b1 b2 HC2
  go_wp2_with fail
  go_loopw [0, 1, 8, 9, 10, 11] (fun f o r _ _ _ wr => ∃ (A T : List PL) (D : List PS) (s1 s2 : Option Addr) (n1 c1 n2 c2 : Nat), f = .slice s1 n1 c1 ∧ o = .slice s2 n2 c2 ∧ SliceIs w (.slice s1 n1 c1) 3 (lcells A) ∧ SliceIs w (.slice s2 n2 c2) 3 (lcells T) ∧ A.length ≤ 20 ∧ T.length ≤ 20 ∧ D ++ planL A T = planL a t ∧ wr.ownsRow w.heap.size 185 2 r D.length (scells D) ∧ Below w.heap.size w wr) (fun f o _ _ _ _ _ => lenOf f + lenOf o)
  case atStart => exact ⟨a, t, [], sa, st, na, ca, nt, ct, rfl, rfl, H1.out, H2.out, by omega, by omega, rfl, by rw [scells_nil]; exact World.ownsRow_nil _ _ _ _, B2.out⟩
  case round =>
    obtain ⟨A, T, D, s1, s2, n1, c1, n2, c2, rfl, rfl, q1, q2, u1, u2, hinv, hown, bel⟩ := hrel
    obtain ⟨m1, m2, m3⟩ := lines_len q1
    obtain ⟨p1, p2, p3⟩ := lines_len q2
    unfold maxLen at m3 p3
    have hDl : D.length + (planL A T).length = (planL a t).length := by rw [← hinv, List.length_append]
    have hPl := HPL.out
    have BW := Lib.hid bel
    have HO := Lib.hid hown
    have Q1 := Lib.hid q1
    have Q2 := Lib.hid q2
    obtain ⟨va, vc, rfl⟩ := owns_slice hown
    clear bel hown q1 q2
    by_cases hn : A = [] ∧ T = []
    · obtain ⟨rfl, rfl⟩ := hn
      rw [List.length_nil] at m1 p1
      subst m1 p1
      clear u1 u2 hPl hDl
      have hD : D = planL a t := by rw [← hinv, planL_none, List.append_nil]
      subst hD
      go_wp2_with fail
      go_ret2
      exact ⟨_, rfl, HO.out, BW.out⟩
    · have hST := planL_step hn
      obtain ⟨z1, z2, z3⟩ := stepL_bd A T
      have z3 := z3 hn
      have ST := Lib.hid (fun (w' : World) h1 h2 => flstep_any A T (.slice s1 n1 c1) (.slice s2 n2 c2) w' h1 h2 hn)
      obtain ⟨sH, nH, cH, rH, g1⟩ := lines_head Q1.out (stepL A T).2.1 (by omega)
      obtain ⟨sI, nI, cI, rI, g2⟩ := lines_head Q2.out (stepL A T).2.2 (by omega)
      obtain ⟨m1', _, _⟩ := lines_len g1
      obtain ⟨p1', _, _⟩ := lines_len g2
      rw [List.length_drop] at m1' p1'
      subst m1 p1 m1' p1'
      have hsum : (0 : Int) < (A.length : Int) + T.length := by omega
      generalize stepL A T = s at *
      obtain ⟨x, k1, k2⟩ := s
      obtain ⟨xk, xn⟩ := x
      simp only [PS.val_is] at ST hST rH rI g1 g2 z1 z2 z3
      have Y := Lib.hid (show (D ++ [⟨xk, xn⟩]) ++ planL (A.drop k1) (T.drop k2) = planL a t by rw [List.append_assoc, ← hST]; exact hinv)
      have G1 := Lib.hid g1
      have G2 := Lib.hid g2
      have hst : (planL A T).length ≥ 1 := by rw [hST]; simp
      have HN1 : Hid (D.length + 1 ≤ maxLen) := by show _ ≤ _; unfold maxLen; omega
      have HN2 : Hid ((D.length + 1) * 32 ≤ 140737488355328) := by show _ ≤ _; omega
      clear hinv hST g1 g2 hst hDl hPl
      go_wp2_with fail
      refine (ST.out _ (Q1.out.below BW.out) (Q2.out.below BW.out)).mono ?_
      rintro e w3 ⟨rfl, b3⟩
      have HO3 := Lib.hid (owns_below HO.out b3)
      have B3 := Lib.hid (below_trans' BW.out b3)
      have BX := Lib.hid b3
      clear b3
      have NEWB : Hid (((w3.alloc (.cells #[.string (bs xk), .string (bs xn)] 185)).alloc (.cells #[.string (bs xk), .string (bs xn)] 185)).heap[w3.heap.size + 1]? = some (.cells #[.string (bs xk), .string (bs xn)] 185 (0, 0))) := by
        have h := heap_alloc_new (w3.alloc (.cells #[.string (bs xk), .string (bs xn)] 185)) (.cells #[.string (bs xk), .string (bs xn)] 185)
        have e : (w3.alloc (.cells #[.string (bs xk), .string (bs xn)] 185)).heap.size = w3.heap.size + 1 := by simp
        rw [e] at h; exact h
      go_wp2_with (at_builtin; refine wpList_append_is rfl (.tmp 35) (.tmp 37) 182 rfl w.heap.size 185 i0 _ 2 32 Tryz.underlying182 hi hz0 hz1 hz2 rfl (by decide) _ D.length _ rfl ((HO3.out.alloc _).alloc _) _ 1 [.string (bs xk), .string (bs xn)] rfl (slice_oneS NEWB.out) rfl (fun u hu => by simp at hu; rcases hu with rfl | rfl <;> rfl) HN1.out HN2.out (by have := B3.out.size; simp; omega) ?_; intro v' w5 hown5 hgrow _; have HO5 := Lib.hid hown5; have B5 := Lib.hid (((B3.out.alloc B3.out.size _).alloc (B3.out.alloc B3.out.size _).size _).grown hgrow (by have := B3.out.size; simp; omega) (fun j hj => (HO3.out.lt j hj).1)); clear hown5 hgrow)
      go_region_law (fail)
      all_goals
        simp [go_sem, Act.put]
        go_wp2_with fail
        go_roundw
        case rel => exact ⟨A.drop k1, T.drop k2, D ++ [⟨xk, xn⟩], _, _, _, _, _, _, rfl, rfl, G1.out, G2.out, by rw [List.length_drop]; omega, by rw [List.length_drop]; omega, Y.out, by rw [scells_append, scells_one, List.length_append]; exact HO5.out, below_drewN B5.out 1⟩
        case measure => simp [lenOf]; omega
end Go.Proofs.YtppkeophochgiaaGreatDoor
/- Contract of files.Read. -/
namespace Go.Proofs.YtppkeophochgiaaGreatDoor
open Go.RowKit
set_option linter.unusedVariables false

/-- a line of a reader that has no error yet -/
def rdLn (l : List UInt8) : PL × List UInt8 × Nat :=
  (⟨rtT l 0, rnN (rtR l 0) (rtC l 0), rnN (rnR (rtR l 0) (rtC l 0)) (rnC (rtR l 0) (rtC l 0)) % 4294967296⟩,
   rnR (rnR (rtR l 0) (rtC l 0)) (rnC (rtR l 0) (rtC l 0)),
   if rnC (rnR (rtR l 0) (rtC l 0)) (rnC (rtR l 0) (rtC l 0)) = 0 ∧ 4294967295 < rnN (rnR (rtR l 0) (rtC l 0)) (rnC (rtR l 0) (rtC l 0)) then 1 else rnC (rnR (rtR l 0) (rtC l 0)) (rnC (rtR l 0) (rtC l 0)))
theorem rdLn_is (l l1 l2 : List UInt8) (c1 c2 : Nat) (h1 : rtR l 0 = l1) (h2 : rtC l 0 = c1) (h3 : rnR l1 c1 = l2) (h4 : rnC l1 c1 = c2) :
    rdLn l = (⟨rtT l 0, rnN l1 c1, rnN l2 c2 % 4294967296⟩, rnR l2 c2, if rnC l2 c2 = 0 ∧ 4294967295 < rnN l2 c2 then 1 else rnC l2 c2) := by
  subst h1 h2 h3 h4; rfl
theorem rtT_le (l : List UInt8) (c : Nat) : (rtT l c).length ≤ 20000 := by
  have := (tT_len l).1
  unfold rtT; split
  · exact this
  · simp
theorem tR_short (l : List UInt8) (h : tC l = 0) : (tR l).length < l.length := by
  have hg : gC l = 0 := by
    unfold tC at h; split at h
    · rename_i h1; exact absurd h h1
    · rename_i h1; omega
  have h2 := gR_short l hg
  unfold tR; rw [if_pos h, List.length_drop]; omega
theorem rdLn_len (l : List UInt8) (h : (rdLn l).2.2 = 0) : (rdLn l).2.1.length < l.length := by
  have hi := rdLn_is l _ _ _ _ rfl rfl rfl rfl
  rw [hi] at h ⊢
  simp only [] at h ⊢
  split at h
  · simp at h
  · have h3 := rnC_zero h
    have h2 := rnC_zero h3.1
    have := tR_short l (rtC_zero (l := l) (c := 0) h2.1).2
    have e1 := (rt_zero l).2.1
    have l2 := rnR_len (rtR l 0) (rtC l 0)
    have l3 := rnR_len (rnR (rtR l 0) (rtC l 0)) (rnC (rtR l 0) (rtC l 0))
    rw [e1] at l2 l3 ⊢
    omega
def rlLoop : Nat → List UInt8 → Nat → List PL → List PL × List UInt8 × Nat
  | 0, l, c, out => (out, l, c)
  | f + 1, l, c, out => if c = 0 then rlLoop f (rdLn l).2.1 (rdLn l).2.2 (out ++ [(rdLn l).1]) else (out, l, c)
theorem rlLoop_end (l : List UInt8) (c : Nat) (out : List PL) : rlLoop 0 l c out = (out, l, c) := rfl
theorem rlLoop_err (f : Nat) (l : List UInt8) {c : Nat} (h : c ≠ 0) (out : List PL) : rlLoop f l c out = (out, l, c) := by
  cases f with
  | zero => rfl
  | succ f => simp [rlLoop, h]
theorem rlLoop_step {f : Nat} (hf : 0 < f) (l : List UInt8) (out : List PL) : rlLoop f l 0 out = rlLoop (f - 1) (rdLn l).2.1 (rdLn l).2.2 (out ++ [(rdLn l).1]) := by
  obtain ⟨g, rfl⟩ : ∃ g, f = g + 1 := ⟨f - 1, by omega⟩
  simp [rlLoop]
def rl0 (L : List UInt8) : List PL × List UInt8 × Nat := rlLoop (rnN L 0) (rnR L 0) (rnC L 0) []
/-- lines that are read, an error's number -/
def readLn (L : List UInt8) : List PL × Nat :=
  if rEnd (rl0 L).2.1 (rl0 L).2.2 ≠ 0 then ([], rEnd (rl0 L).2.1 (rl0 L).2.2)
  else if (lnFault (rl0 L).1).1 ≠ 0 then ([], (lnFault (rl0 L).1).1) else ((rl0 L).1, 0)
theorem readLn_end {L l : List UInt8} {c : Nat} {out : List PL} (h : rl0 L = (out, l, c)) (h1 : rEnd l c ≠ 0) : readLn L = ([], rEnd l c) := by simp [readLn, h, h1]
theorem readLn_bad {L l : List UInt8} {c : Nat} {out : List PL} (h : rl0 L = (out, l, c)) (h1 : rEnd l c = 0) (h2 : (lnFault out).1 ≠ 0) : readLn L = ([], (lnFault out).1) := by simp [readLn, h, h1, h2]
theorem readLn_ok {L l : List UInt8} {c : Nat} {out : List PL} (h : rl0 L = (out, l, c)) (h1 : rEnd l c = 0) (h2 : (lnFault out).1 = 0) : readLn L = (out, 0) := by simp [readLn, h, h1, h2]
theorem rl0_is {L l1 : List UInt8} {c1 : Nat} (h1 : rnR L 0 = l1) (h2 : rnC L 0 = c1) : rl0 L = rlLoop (rnN L 0) l1 c1 [] := by subst h1 h2; rfl
attribute [irreducible] rdLn rlLoop rl0 readLn
set_option maxRecDepth 100000 in
set_option maxHeartbeats 3200000 in
theorem flread_any (E : Nat → Addr) (s : ByteArray) (w : World) (hs : s.size ≤ 100000000) (hT : Has E w 1) (hB : Has E w 2) (hN : Has E w 5) (hF : Has E w 8) (hO : Has E w 9) :
    Calls Tryz.prog 253 #[.string s] w fun e w' => ∃ v, e = .returned (.tuple #[v, ev E (readLn s.data.toList).2]) ∧
      w'.ownsRow w.heap.size 179 3 v (readLn s.data.toList).1.length (lcells (readLn s.data.toList).1) ∧ Below w.heap.size w w' := by
  obtain ⟨i0, hi, hz0, hz1, hz2⟩ := info_parts infoLine
  obtain ⟨L, hL⟩ : ∃ L, L = s.data.toList := ⟨_, rfl⟩
  have hLl : L.length = s.size := by rw [hL]; simp
  rw [← hL]
  have hsb : s = bs L := by rw [hL, bs_of]
  have hLb : L.length ≤ 100000000 := by omega
  clear hLl hL hs
  subst hsb
  have HB := Lib.hid hB
  have HT := Lib.hid hT
  have HFU := Lib.hid hF
  obtain ⟨l1, e1⟩ : ∃ x, rnR L 0 = x := ⟨_, rfl⟩
  obtain ⟨c1, e2⟩ : ∃ x, rnC L 0 = x := ⟨_, rfl⟩
  have hr0 := rl0_is e1 e2
  have hl1 := rnR_len L 0
  rw [e1] at hl1
  have N1 := Lib.hid (fun b (w : World) h => rnum_any E b L 0 w (by omega) h)
  rw [e1, e2] at N1
  have HR0 := Lib.hid hr0
  have hml := rnN_le L 0
  generalize rnN L 0 = many at *
  have HEZ := Lib.hid (ev_zero E)
  have HNN := Lib.hid hN
  have HOO := Lib.hid hO
  clear e1 e2 hr0 hB hT hF hN hO
  have R0 : RAt E (w.alloc (.cells #[.string (bs L), .nilIface] 304)) w.heap.size L 0 := by unfold RAt; rw [ev_zero]; exact heap_alloc_new _ _
  have b0 := below_alloc' w (.cells #[.string (bs L), .nilIface] 304)
  go_enter Tryz.func253, Tryz.ntmps253
  go_wp2_with fail
  refine (N1.out _ _ R0 (HT.out.below b0) (HB.out.below b0)).mono ?_
  rintro e w1 ⟨rfl, R1, g1⟩
  have b1 := b0.grown g1 b0.size (fun k hk => by cases hk; exact Nat.le_refl _)
  have hb : w.heap.size ≤ w.heap.size := Nat.le_refl _
  clear R0 b0 g1
  go_wp2_with fail
  go_loopw [7, 6, 8, 9, 10] (fun i o _ _ _ wr => ∃ (k : Nat) (out : List PL) (l : List UInt8) (c : Nat), i = .int .i64 k ∧ k ≤ many ∧ out.length = k ∧ out.length ≤ L.length + 1 ∧ (c = 0 → out.length + l.length ≤ L.length) ∧ l.length ≤ L.length ∧ (∀ x ∈ out, x.n.length ≤ 20000) ∧
      rl0 L = rlLoop (many - k) l c out ∧ RAt E wr w.heap.size l c ∧ wr.ownsRow (w.heap.size + 1) 179 3 o k (lcells out) ∧ Below w.heap.size w wr) (fun i _ _ _ _ _ => many - (intOf i).toNat)
  case atStart => exact ⟨0, [], l1, c1, rfl, by omega, rfl, by simp, fun _ => by simp; omega, by omega, by simp, HR0.out, R1, by rw [lcells_nil]; exact World.ownsRow_nil _ _ _ _, b1⟩
  case round =>
    clear R1 b1
    obtain ⟨k, out, l, c, rfl, hk, hok, ho1, ho2, hll, hnm, hrd, R, hown, bel⟩ := hrel
    have HNM := Lib.hid hnm
    have HRD := Lib.hid hrd
    have HOK := Lib.hid hok
    have HO2 := Lib.hid ho2
    obtain ⟨r0, r1⟩ := R.cs
    clear hrd hok ho2 hnm
    by_cases hgo : k < many ∧ c = 0
    · obtain ⟨hlt, rfl⟩ := hgo
      have hltI : (k : Int) < many := by omega
      rw [ev_zero] at r1
      obtain ⟨m1, f1⟩ : ∃ x, rtR l 0 = x := ⟨_, rfl⟩
      obtain ⟨d1, f2⟩ : ∃ x, rtC l 0 = x := ⟨_, rfl⟩
      obtain ⟨m2, f3⟩ : ∃ x, rnR m1 d1 = x := ⟨_, rfl⟩
      obtain ⟨d2, f4⟩ : ∃ x, rnC m1 d1 = x := ⟨_, rfl⟩
      obtain ⟨m3, f5⟩ : ∃ x, rnR m2 d2 = x := ⟨_, rfl⟩
      obtain ⟨d3, f6⟩ : ∃ x, rnC m2 d2 = x := ⟨_, rfl⟩
      have hblk := rdLn_is l m1 m2 d1 d2 f1 f2 f3 f4
      rw [f5, f6] at hblk
      have hstep := HRD.out.trans (rlLoop_step (by omega) l out)
      have hshort := rdLn_len l
      have hlm1 := rtR_len l 0
      have hlm2 := rnR_len m1 d1
      have hlm3 := rnR_len m2 d2
      rw [f1] at hlm1
      rw [f3] at hlm2
      rw [f5] at hlm3
      have P1 := Lib.hid (fun b (w : World) h => rtext_any E b l 0 w (by omega) h)
      have P2 := Lib.hid (fun b (w : World) h => rnum_any E b m1 d1 w (by omega) h)
      have P3 := Lib.hid (fun b (w : World) h => rnum_any E b m2 d2 w (by omega) h)
      rw [f1, f2] at P1
      rw [f3, f4] at P2
      rw [f5, f6] at P3
      rw [hblk] at hstep hshort
      simp only [] at hstep hshort
      have hx1 := rtT_le l 0
      generalize rtT l 0 = x1 at *
      generalize rnN m1 d1 = x2 at *
      generalize rnN m2 d2 = x3 at *
      have HSTEP := Lib.hid hstep
      have HSH := Lib.hid hshort
      have KK := Lib.hid (show k + 1 ≤ many ∧ many - (k + 1) = many - k - 1 by omega)
      have HO3 := Lib.hid (HO2.out rfl)
      clear f1 f2 f3 f4 f5 f6 hblk hstep hshort
      have hsz0 := R.lt
      go_wp2_with fail
      refine (P1.out _ _ R (HT.out.below bel) (HB.out.below bel)).mono ?_
      rintro e v1 ⟨rfl, R1, g1⟩
      have bel1 := bel.grown g1 bel.size (fun k hk => by cases hk; exact Nat.le_refl _)
      have hown1 := owns_other' hown (Nat.lt_succ_self _) g1
      clear R bel g1 hown r0 r1
      go_wp2_with fail
      refine (P2.out _ _ R1 (HT.out.below bel1) (HB.out.below bel1)).mono ?_
      rintro e v2 ⟨rfl, R2, g2⟩
      have bel2 := bel1.grown g2 bel1.size (fun k hk => by cases hk; exact Nat.le_refl _)
      have hown2 := owns_other' hown1 (Nat.lt_succ_self _) g2
      clear R1 bel1 g2 hown1
      go_wp2_with fail
      refine (P3.out _ _ R2 (HT.out.below bel2) (HB.out.below bel2)).mono ?_
      rintro e v3 ⟨rfl, R3, g3⟩
      have bel3 := bel2.grown g3 bel2.size (fun k hk => by cases hk; exact Nat.le_refl _)
      have hown3 := owns_other' hown2 (Nat.lt_succ_self _) g3
      clear R2 bel2 g3 hown2
      obtain ⟨r0, r1⟩ := R3.cs
      have fz := R3.fz 1
      have t1 : v3.cell? ⟨1, 0, none⟩ = some (errv (E 1)) := HT.out.below bel3
      unfold errv at t1
      have hsz3 := R3.lt
      by_cases hd : d3 = 0
      · subst hd
        rw [ev_zero] at r1
        by_cases hx : 4294967295 < x3
        · have hxI : (4294967295 : Int) < x3 := by omega
          have R4 := Lib.hid (R3.set1 1 _ (ev_is E (c := 1) (by decide)).symm)
          unfold errv at R4
          have hs := HSTEP.out
          rw [if_pos ⟨rfl, hx⟩] at hs
          have HS := Lib.hid hs
          clear hs HSTEP HSH
          have OWN := Lib.hid (owns_other' hown3 (Nat.lt_succ_self _) (grownBy_set v3 w.heap.size 1 (.iface 345 (.pointer (some (E 1))))))
          have RR := R4
          have HSZ3 := Lib.hid hsz3
          have BELX := bel3.setCell (p := ⟨w.heap.size, 1, none⟩) (Nat.le_refl _) (.iface 345 (.pointer (some (E 1))))
          have HM1 : Hid (k + 1 ≤ maxLen) := by show _ ≤ _; unfold maxLen; omega
          have HM2 : Hid ((k + 1) * 32 ≤ 140737488355328) := by show _ ≤ _; have := HOK.out; omega
          have HM3 : Hid (w.heap.size + 1 ≤ ((v3.setCell ⟨w.heap.size, 1, none⟩ (.iface 345 (.pointer (some (E 1))))).alloc (.cells #[.string (bs x1), .int .i64 x2, .int .u32 ((x3 : Int) % 4294967296)] 179)).heap.size) := by show _ ≤ _; have := BELX.size; have := HSZ3.out; simp; omega
          have NEWH : Hid (((v3.setCell ⟨w.heap.size, 1, none⟩ (.iface 345 (.pointer (some (E 1))))).alloc (.cells #[.string (bs x1), .int .i64 x2, .int .u32 ((x3 : Int) % 4294967296)] 179)).heap[v3.heap.size]? = some (.cells #[.string (bs x1), .int .i64 x2, .int .u32 ((x3 : Int) % 4294967296)] 179 (0, 0))) := by
            have h := heap_alloc_new (v3.setCell ⟨w.heap.size, 1, none⟩ (.iface 345 (.pointer (some (E 1))))) (.cells #[.string (bs x1), .int .i64 x2, .int .u32 ((x3 : Int) % 4294967296)] 179)
            have e : (v3.setCell ⟨w.heap.size, 1, none⟩ (.iface 345 (.pointer (some (E 1))))).heap.size = v3.heap.size := by simp
            rw [e] at h
            exact h
          go_wp2_with (at_builtin; refine wpList_append_own _ rfl _ _ 175 rfl (w.heap.size + 1) 179 i0 _ 3 32 Tryz.underlying175 hi hz0 hz1 hz2 rfl (by decide) _ _ _ rfl (OWN.out.alloc _) ⟨v3.heap.size, 0, none⟩ 1 1 [.string (bs x1), .int .i64 x2, .int .u32 ((x3 : Int) % 4294967296)] rfl rfl (three_newsL NEWH.out) (fun u hu => by simp at hu; rcases hu with rfl | rfl | rfl <;> rfl) HM1.out HM2.out HM3.out ?_; intro v' v5 hown' hgrow _)
          have bel5 := (BELX.alloc BELX.size (.cells #[.string (bs x1), .int .i64 x2, .int .u32 ((x3 : Int) % 4294967296)] 179)).grown hgrow (by have := BELX.size; simp; omega) (fun j hj => by have := (OWN.out.lt j hj).1; omega)
          have hne : some w.heap.size ≠ Value.ownBlock u6 := fun e => by have := (OWN.out.lt _ e.symm).1; omega
          have R5 := (RAt.below RR.out (below_alloc' _ (.cells #[.string (bs x1), .int .i64 x2, .int .u32 ((x3 : Int) % 4294967296)] 179))).grown hgrow hne
          have hcells : lcells (out ++ [⟨x1, x2, x3 % 4294967296⟩]) = lcells out ++ [.string (bs x1), .int .i64 x2, .int .u32 ((x3 : Int) % 4294967296)] := by
            rw [lcells_append, lcells_one]; simp
          go_roundw
          case rel => exact ⟨k + 1, out ++ [⟨x1, x2, x3 % 4294967296⟩], m3, 1, by go_num, KK.out.1, by simp [HOK.out], by have := HO3.out; simp; omega, (fun h => absurd h (by decide)), by omega, (fun x hx => by rcases List.mem_append.1 hx with hx | hx; exact HNM.out x hx; rw [List.mem_singleton] at hx; subst hx; exact hx1), by rw [KK.out.2]; exact HS.out, R5, by rw [hcells]; exact hown', bel5⟩
          case measure => simp [intOf]; omega
        · have hxI : ¬ (4294967295 : Int) < x3 := by omega
          have hs := HSTEP.out
          rw [if_neg (fun h => hx h.2)] at hs
          have hs2 := HSH.out
          rw [if_neg (fun h => hx h.2)] at hs2
          have HS := Lib.hid hs
          have HS2 := Lib.hid (hs2 rfl)
          clear hs hs2 HSTEP HSH
          have OWN := Lib.hid hown3
          have RR := Lib.hid R3
          have HSZ3 := Lib.hid hsz3
          have hx3 : x3 % 4294967296 = x3 := by omega
          have HX3 := Lib.hid hx3
          clear hx3
          have HM1 : Hid (k + 1 ≤ maxLen) := by show _ ≤ _; unfold maxLen; omega
          have HM2 : Hid ((k + 1) * 32 ≤ 140737488355328) := by show _ ≤ _; have := HOK.out; omega
          have HM3 : Hid (w.heap.size + 1 ≤ (v3.alloc (.cells #[.string (bs x1), .int .i64 x2, .int .u32 (x3 : Int)] 179)).heap.size) := by show _ ≤ _; have := bel3.size; have := HSZ3.out; simp; omega
          go_wp2_with (at_builtin; refine wpList_append_own _ rfl _ _ 175 rfl (w.heap.size + 1) 179 i0 _ 3 32 Tryz.underlying175 hi hz0 hz1 hz2 rfl (by decide) _ _ _ rfl (OWN.out.alloc _) ⟨v3.heap.size, 0, none⟩ 1 1 [.string (bs x1), .int .i64 x2, .int .u32 (x3 : Int)] rfl rfl (three_newsL (heap_alloc_new _ _)) (fun u hu => by simp at hu; rcases hu with rfl | rfl | rfl <;> rfl) HM1.out HM2.out HM3.out ?_; intro v' v5 hown' hgrow _)
          have bel5 := (bel3.alloc bel3.size (.cells #[.string (bs x1), .int .i64 x2, .int .u32 (x3 : Int)] 179)).grown hgrow (by have := bel3.size; simp; omega) (fun j hj => by have := (OWN.out.lt j hj).1; omega)
          have hne : some w.heap.size ≠ Value.ownBlock u6 := fun e => by have := (OWN.out.lt _ e.symm).1; omega
          have R5 := (RAt.below RR.out (below_alloc' _ (.cells #[.string (bs x1), .int .i64 x2, .int .u32 (x3 : Int)] 179))).grown hgrow hne
          have hcells : lcells (out ++ [⟨x1, x2, x3 % 4294967296⟩]) = lcells out ++ [.string (bs x1), .int .i64 x2, .int .u32 (x3 : Int)] := by
            rw [lcells_append, lcells_one]; rw [HX3.out]
          go_roundw
          case rel => exact ⟨k + 1, out ++ [⟨x1, x2, x3 % 4294967296⟩], m3, 0, by go_num, KK.out.1, by simp [HOK.out], by have := HO3.out; simp; omega, (fun _ => by have := HS2.out; have := HO3.out; simp; omega), by omega, (fun x hx => by rcases List.mem_append.1 hx with hx | hx; exact HNM.out x hx; rw [List.mem_singleton] at hx; subst hx; exact hx1), by rw [KK.out.2]; exact HS.out, R5, by rw [hcells]; exact hown', bel5⟩
          case measure => simp [intOf]; omega
      · have hs := HSTEP.out
        rw [if_neg (fun h => hd h.1)] at hs
        have HS := Lib.hid hs
        have HD := Lib.hid hd
        have hev := ev_is E hd
        rw [hev] at r1
        unfold errv at r1
        clear hs HSTEP HSH hd hev
        have OWN := Lib.hid hown3
        have RR := Lib.hid R3
        have HSZ3 := Lib.hid hsz3
        have HM1 : Hid (k + 1 ≤ maxLen) := by show _ ≤ _; unfold maxLen; omega
        have HM2 : Hid ((k + 1) * 32 ≤ 140737488355328) := by show _ ≤ _; have := HOK.out; omega
        have HM3 : Hid (w.heap.size + 1 ≤ (v3.alloc (.cells #[.string (bs x1), .int .i64 x2, .int .u32 ((x3 : Int) % 4294967296)] 179)).heap.size) := by show _ ≤ _; have := bel3.size; have := HSZ3.out; simp; omega
        go_wp2_with (at_builtin; refine wpList_append_own _ rfl _ _ 175 rfl (w.heap.size + 1) 179 i0 _ 3 32 Tryz.underlying175 hi hz0 hz1 hz2 rfl (by decide) _ _ _ rfl (OWN.out.alloc _) ⟨v3.heap.size, 0, none⟩ 1 1 [.string (bs x1), .int .i64 x2, .int .u32 ((x3 : Int) % 4294967296)] rfl rfl (three_newsL (heap_alloc_new _ _)) (fun u hu => by simp at hu; rcases hu with rfl | rfl | rfl <;> rfl) HM1.out HM2.out HM3.out ?_; intro v' v5 hown' hgrow _)
        have bel5 := (bel3.alloc bel3.size (.cells #[.string (bs x1), .int .i64 x2, .int .u32 ((x3 : Int) % 4294967296)] 179)).grown hgrow (by have := bel3.size; simp; omega) (fun j hj => by have := (OWN.out.lt j hj).1; omega)
        have hne : some w.heap.size ≠ Value.ownBlock u6 := fun e => by have := (OWN.out.lt _ e.symm).1; omega
        have R5 := (RAt.below RR.out (below_alloc' _ (.cells #[.string (bs x1), .int .i64 x2, .int .u32 ((x3 : Int) % 4294967296)] 179))).grown hgrow hne
        have hcells : lcells (out ++ [⟨x1, x2, x3 % 4294967296⟩]) = lcells out ++ [.string (bs x1), .int .i64 x2, .int .u32 ((x3 : Int) % 4294967296)] := by
          rw [lcells_append, lcells_one]; simp
        go_roundw
        case rel => exact ⟨k + 1, out ++ [⟨x1, x2, x3 % 4294967296⟩], m3, d3, by go_num, KK.out.1, by simp [HOK.out], by have := HO3.out; simp; omega, (fun h => absurd h HD.out), by omega, (fun x hx => by rcases List.mem_append.1 hx with hx | hx; exact HNM.out x hx; rw [List.mem_singleton] at hx; subst hx; exact hx1), by rw [KK.out.2]; exact HS.out, R5, by rw [hcells]; exact hown', bel5⟩
        case measure => simp [intOf]; omega
    · have hEX : rl0 L = (out, l, c) := by
        rw [HRD.out]
        by_cases hc : c = 0
        · have : many - k = 0 := by omega
          rw [this, rlLoop_end]
        · exact rlLoop_err _ _ hc _
      have HEX := Lib.hid hEX
      clear hEX
      have WAYS : ¬ (k : Int) < many ∨ (k : Int) < many ∧ c ≠ 0 := by omega
      have EN := Lib.hid (rend_any E w.heap.size l c wr R (HT.out.below bel))
      clear hgo
      obtain ⟨A, cap, rfl⟩ := owns_slice hown
      have WAYS2 : ¬ (k : Int) < many ∨ (k : Int) < many ∧ ∃ x, ev E c = .iface 345 x := by
        rcases WAYS with h | ⟨h, hc⟩
        · exact .inl h
        · exact .inr ⟨h, _, ev_pos E hc⟩
      clear WAYS
      rcases WAYS2 with h | ⟨h, x, hx⟩
      all_goals
        try rw [hx] at r1
        try clear hx
        go_wp2_with fail
        refine EN.out.mono ?_
        rintro e v4 ⟨rfl, R4, g4⟩
        have bel4 := bel.grown g4 bel.size (fun k hk => by cases hk; exact Nat.le_refl _)
        have hown4 := owns_other' hown (Nat.lt_succ_self _) g4
        clear bel g4 hown R R4 r0 r1
        by_cases he : rEnd l c = 0
        · have CK := fllines_any E out (.slice A k cap) v4 (SliceIs.ownedK hown4) (fun x hx => by have := HNM.out x hx; unfold maxLen; omega) (by omega) (HB.out.below bel4) (HNN.out.below bel4) (HFU.out.below bel4) (HOO.out.below bel4)
          have HCK := Lib.hid CK
          clear CK
          by_cases hcode : (lnFault out).1 = 0
          · have hr := readLn_ok HEX.out he hcode
            have HR := Lib.hid hr
            have HC := Lib.hid hcode
            rw [he, ev_zero]
            clear hr he hcode
            go_wp2_with fail
            refine HCK.out.mono ?_
            rintro e v5 ⟨v, rfl, fe, b5⟩
            rw [HC.out] at fe
            rw [fe.zero]
            clear fe
            go_wp2_with fail
            go_ret2
            refine ⟨_, by rw [HR.out, ev_zero]; rfl, ?_, below_trans' bel4 b5⟩
            rw [HR.out]
            simp only []
            rw [HOK.out]
            exact owns_mono (owns_below hown4 b5) (by omega)
          · have hr := readLn_bad HEX.out he hcode
            have HR := Lib.hid hr
            have HC := Lib.hid hcode
            rw [he, ev_zero]
            clear hr he hcode
            go_wp2_with fail
            refine HCK.out.mono ?_
            rintro e v5 ⟨v, rfl, fe, b5⟩
            have BA := Lib.hid (bare_any E v _ _ v5 fe)
            obtain ⟨t, p, hv⟩ := fe.some HC.out
            rw [hv] at BA ⊢
            clear fe hv
            go_wp2_with fail
            refine BA.out.mono ?_
            rintro e v6 ⟨rfl, rfl⟩
            go_wp2_with fail
            go_ret2
            refine ⟨.slice none 0 0, by rw [HR.out]; rfl, ?_, below_trans' bel4 b5⟩
            rw [HR.out]
            simp only []
            rw [lcells_nil]
            exact World.ownsRow_nil _ _ _ _
        · have HR := Lib.hid (readLn_end HEX.out he)
          have hev := ev_is E he
          rw [hev]
          have HEV := Lib.hid hev
          unfold errv at HEV ⊢
          clear hev he
          go_wp2_with fail
          go_ret2
          refine ⟨.slice none 0 0, by rw [HR.out, HEV.out]; rfl, ?_, bel4⟩
          rw [HR.out]
          simp only []
          rw [lcells_nil]
          exact World.ownsRow_nil _ _ _ _

end Go.Proofs.YtppkeophochgiaaGreatDoor
/- Plain laws: lines are read as they were written. -/
namespace Go.Proofs.YtppkeophochgiaaGreatDoor
open Go.RowKit
set_option linter.unusedVariables false

theorem rdLn_text (x : PL) (more : List UInt8) (h : x.n.length ≤ 12 ∧ 0 ≤ x.N ∧ x.N ≤ 4000) (hS : x.S < 4294967296) : rdLn ((num x.n.length ++ x.n) ++ num x.N.toNat ++ num x.S ++ more) = (x, more, 0) := by
  obtain ⟨h1, h2, h3⟩ := h
  have e : (num x.n.length ++ x.n) ++ num x.N.toNat ++ num x.S ++ more = num x.n.length ++ x.n ++ (num x.N.toNat ++ (num x.S ++ more)) := by simp
  rw [e]
  obtain ⟨t1, t2, t3⟩ := t_text x.n (num x.N.toNat ++ (num x.S ++ more)) (by omega)
  obtain ⟨z1, z2, z3⟩ := rt_zero (num x.n.length ++ x.n ++ (num x.N.toNat ++ (num x.S ++ more)))
  rw [t2] at z1
  rw [t3] at z2
  rw [t1] at z3
  obtain ⟨q1, q2, q3⟩ := rd_num x.N.toNat (num x.S ++ more) (by omega)
  obtain ⟨r1, r2, r3⟩ := rd_num x.S more (by omega)
  rw [rdLn_is _ _ _ _ _ z2 z3 q2 q3, z1, q1, r1, r2, r3]
  rw [if_neg (by omega)]
  have e2 : ((x.N.toNat : Nat) : Int) = x.N := by omega
  have e3 : x.S % 4294967296 = x.S := by omega
  rw [e2, e3]
theorem rlLoop_text : ∀ (l : List PL) (out : List PL) (more : List UInt8), (∀ x ∈ l, x.n.length ≤ 12 ∧ 0 ≤ x.N ∧ x.N ≤ 4000) → (∀ x ∈ l, x.S < 4294967296) → rlLoop l.length (lnText l ++ more) 0 out = (out ++ l, more, 0)
  | [], out, more, _, _ => by simp [lnText_nil, rlLoop_end]
  | b :: l, out, more, h, hS => by
    rw [lnText_cons, List.append_assoc]
    rw [rlLoop_step (by simp), rdLn_text b _ (h b (by simp)) (hS b (by simp))]
    simp only [List.length_cons, Nat.add_sub_cancel]
    rw [rlLoop_text l _ more (fun x hx => h x (by simp [hx])) (fun x hx => hS x (by simp [hx]))]
    simp
theorem readLn_text (l : List PL) (hc : LWF l) (hS : ∀ b ∈ l, b.S < 4294967296) : readLn (flText l) = (l, 0) := by
  have hfew := hc.few
  have e : flText l = num l.length ++ (lnText l ++ []) := by rw [flText_is]; simp
  obtain ⟨p1, p2, p3⟩ := rd_num l.length (lnText l ++ []) (by omega)
  have hr : rl0 (flText l) = (l, [], 0) := by
    rw [e, rl0_is p2 p3, p1, rlLoop_text l [] [] (fun x hx => by have h := hc.each x hx; exact ⟨((nameB_iff _).1 h.1).2.1, h.2.1, h.2.2⟩) hS]; simp
  exact readLn_ok hr rEnd_nil ((lnFault_wf l).2 hc)
end Go.Proofs.YtppkeophochgiaaGreatDoor
/- Plain laws of lists, plans and files: what FilesBack asks. No program is in sight. -/
namespace Go.Proofs.YtppkeophochgiaaGreatDoor
open Go.RowKit
set_option linter.unusedVariables false

theorem FWF.lines {l : List PF} (h : FWF l) : LWF (l.map PF.line) :=
  ⟨by rw [List.length_map]; exact h.few, fun x hx => by
    obtain ⟨f, hf, rfl⟩ := List.mem_map.1 hx
    obtain ⟨h1, h2⟩ := h.each f hf
    exact ⟨h1, by show (0 : Int) ≤ f.d.length; omega, by show (f.d.length : Int) ≤ 4000; omega⟩, List.pairwise_map.2 h.sorted⟩
theorem lines_sum (l : List PF) : ∀ x ∈ l.map PF.line, x.S < 4294967296 := by
  intro x hx
  obtain ⟨f, _, rfl⟩ := List.mem_map.1 hx
  exact csum_lt _
def BackOK (l m : List PF) (s : PS) : Prop :=
  (s.k = kSend ∧ ∃ u, fgetL l s.n = some u ∧ ∀ v, fgetL m s.n = some v → u ≠ v) ∨ (s.k = kKeep ∧ ∃ u v, fgetL l s.n = some u ∧ fgetL m s.n = some v ∧ u.length = v.length) ∨ (s.k = kDrop ∧ fgetL l s.n = none ∧ ∃ v, fgetL m s.n = some v)
theorem back_law {l m : List PF} (hl : FWF l) (hm : FWF m) : ∀ s ∈ planL (l.map PF.line) (m.map PF.line), BackOK l m s := by
  intro s hs
  have P := planL_law hl.lines.sorted hm.lines.sorted
  rcases P.of s hs with ⟨h1, x, hx, h2, h3⟩ | ⟨h1, x, hx, h2, h3⟩ | ⟨h1, ⟨y, hy, h2⟩, h3⟩
  · obtain ⟨f, hf, rfl⟩ := List.mem_map.1 hx
    have hn : f.n = s.n := h2
    refine .inl ⟨h1, f.d, by rw [← hn]; exact fgetL_of hl.sorted hf, fun v hv e => h3 ?_⟩
    have := fgetL_some hv
    rw [← e, ← hn] at this
    exact List.mem_map.2 ⟨_, this, rfl⟩
  · obtain ⟨f, hf, rfl⟩ := List.mem_map.1 hx
    obtain ⟨g, hg, e⟩ := List.mem_map.1 h3
    have hn : f.n = s.n := h2
    have e1 : g.n = f.n := congrArg PL.n e
    have e2 : (g.d.length : Int) = f.d.length := congrArg PL.N e
    exact .inr (.inl ⟨h1, f.d, g.d, by rw [← hn]; exact fgetL_of hl.sorted hf, by rw [← hn, ← e1]; exact fgetL_of hm.sorted hg, by omega⟩)
  · obtain ⟨g, hg, rfl⟩ := List.mem_map.1 hy
    have hn : g.n = s.n := h2
    refine .inr (.inr ⟨h1, ?_, g.d, by rw [← hn]; exact fgetL_of hm.sorted hg⟩)
    cases e : fgetL l s.n with
    | none => rfl
    | some d => exact absurd rfl (h3 _ (List.mem_map.2 ⟨_, fgetL_some e, rfl⟩))
end Go.Proofs.YtppkeophochgiaaGreatDoor
