/- Contract of files.Plan. -/
import Derived.Test.YtapdfgnfblkncaaGreatDoorFilStep
import Derived.Test.YtapdfgnfblkncaaGreatDoorFilIns
namespace Go.Proofs.YtapdfgnfblkncaaGreatDoor
open Go.RowKit
set_option linter.unusedVariables false

/-! ### plans in plain words -/
theorem planF_fuel : ∀ (f : Nat) (a t : List PL), a.length + t.length ≤ f → planF f a t = planF (a.length + t.length) a t
  | 0, a, t, h => by
    have h1 : a = [] := List.eq_nil_of_length_eq_zero (by omega)
    have h2 : t = [] := List.eq_nil_of_length_eq_zero (by omega)
    subst h1 h2; rfl
  | f + 1, a, t, h => by
    by_cases hn : a = [] ∧ t = []
    · obtain ⟨rfl, rfl⟩ := hn
      rw [planF_end, planF_end]
    · obtain ⟨b1, b2, b3⟩ := stepL_bd a t
      have b3 := b3 hn
      have hpos : 0 < a.length + t.length := by
        cases a with
        | nil => cases t with
          | nil => exact absurd ⟨rfl, rfl⟩ hn
          | cons => simp
        | cons => simp; omega
      obtain ⟨g, hg⟩ : ∃ g, a.length + t.length = g + 1 := ⟨a.length + t.length - 1, by omega⟩
      rw [planF_step hn, hg, planF_step hn]
      congr 1
      have e1 : (a.drop (stepL a t).2.1).length + (t.drop (stepL a t).2.2).length ≤ g := by rw [List.length_drop, List.length_drop]; omega
      rw [planF_fuel f _ _ (by omega), planF_fuel g _ _ e1]
termination_by f => f
decreasing_by all_goals omega
theorem planL_step {a t : List PL} (h : ¬ (a = [] ∧ t = [])) : planL a t = [(stepL a t).1] ++ planL (a.drop (stepL a t).2.1) (t.drop (stepL a t).2.2) := by
  obtain ⟨b1, b2, b3⟩ := stepL_bd a t
  have b3 := b3 h
  have e1 : (a.drop (stepL a t).2.1).length + (t.drop (stepL a t).2.2).length = a.length + t.length - ((stepL a t).2.1 + (stepL a t).2.2) := by rw [List.length_drop, List.length_drop]; omega
  obtain ⟨g, hg⟩ : ∃ g, a.length + t.length = g + 1 := ⟨a.length + t.length - 1, by omega⟩
  unfold planL
  rw [hg, planF_step h, planF_fuel g _ _ (by omega)]
  rfl
theorem planL_none : planL [] [] = [] := planF_end _
theorem planL_len (a t : List PL) : ∀ f, (planF f a t).length ≤ f := by
  intro f
  induction f generalizing a t with
  | zero => simp [planF]
  | succ f ih =>
    unfold planF
    split
    · simp
    · simp only [List.length_cons]; have := ih (a.drop (stepL a t).2.1) (t.drop (stepL a t).2.2); omega
theorem planL_le (a t : List PL) : (planL a t).length ≤ a.length + t.length := planL_len a t _

/-! ### rows of steps -/
def sk0 (s : PS) : Value := .string (bs s.k)
def sk1 (s : PS) : Value := .string (bs s.n)
def scells (l : List PS) : List Value := rowc sk0 sk1 l
theorem scells_len (l : List PS) : (scells l).length = l.length * 2 := rowc_len _ _ l
theorem scells_get (l : List PS) (k : Nat) (h : k < l.length) : (scells l)[k * 2]? = some (.string (bs l[k].k)) ∧ (scells l)[k * 2 + 1]? = some (.string (bs l[k].n)) := rowc_get _ _ l k h
theorem scells_nil : scells [] = [] := rfl
theorem scells_append (l m : List PS) : scells (l ++ m) = scells l ++ scells m := rowc_append _ _ l m
theorem scells_one (s : PS) : scells [s] = [.string (bs s.k), .string (bs s.n)] := rfl
attribute [irreducible] scells
theorem infoStep : (Tryz.prog.info? 49).map (fun i => (i.zero, i.size, i.bytes)) = some (some (.agg #[.string ⟨#[]⟩, .string ⟨#[]⟩]), 2, 32) := by kernel_rfl
theorem slice_oneS {w : World} {b : Nat} {x y : Value} (h : w.heap[b]? = some (.cells #[x, y] 49 (0, 0))) : SliceIs w (.slice (some ⟨b, 0, none⟩) 1 1) 2 [x, y] :=
  .inr ⟨_, 1, 1, rfl, Nat.le_refl _, by unfold maxLen; omega, rfl, fun j u' hj => by
    match j, hj with
    | 0, hj => simp at hj; subst hj; simp [World.cell?, h, Addr.add]
    | 1, hj => simp at hj; subst hj; simp [World.cell?, h, Addr.add]⟩

/-! ### a slice of lines is cut at its beginning -/
theorem lines_head {w : World} {s : Option Addr} {n c : Nat} {l : List PL} (h : SliceIs w (.slice s n c) 3 (lcells l)) (k : Nat) (hk : k ≤ n) :
    ∃ sH nH cH, (∀ w' : World, (Instr.slice 32 (.slice s n c) (some (.int .i64 k)) none none).run Tryz.prog w' = .ok (.slice sH nH cH) w') ∧ SliceIs w (.slice sH nH cH) 3 (lcells (l.drop k)) := by
  have hg := h.get
  obtain ⟨s', n', c', e, hn, h1, h2, hg⟩ := hg
  cases e
  rw [lcells_len] at hn
  have hln : l.length = n := by omega
  have h2' := h2
  unfold maxLen at h2'
  have hu : Tryz.prog.underlying 32 = some (.slice (Tryz.prog.elem 32)) := by kernel_rfl
  have hz : ∀ w' : World, (sizeOf (Tryz.prog.elem 32)).run Tryz.prog w' = .ok 3 w' := fun w' => by kernel_rfl
  refine ⟨_, n - k, c - k, fun w' => by
    rw [run_slice_l w' 32 s n c hu .i64 k (by omega) (by omega), hz]
    simp only [Result.andThen, sliced]
    rw [show ((k : Int)).toNat = k by omega], ?_⟩
  rcases s with _ | a
  · have hn0 : n = 0 := by
      rcases Nat.eq_zero_or_pos n with e | e
      · exact e
      · obtain ⟨g0, _, _⟩ := lcells_get l 0 (by omega)
        obtain ⟨a, e, _⟩ := hg _ _ g0
        cases e
    subst hn0
    have hl : l = [] := List.eq_nil_of_length_eq_zero hln
    subst hl
    obtain rfl : k = 0 := by omega
    rcases h with ⟨e1, e2⟩ | ⟨a, len, cap, e1, _⟩
    · cases e1; exact .inl ⟨by simp, by simp [lcells_nil]⟩
    · cases e1
  · have e0 : lcells l = lcells (l.take k) ++ lcells (l.drop k) := by rw [← lcells_append, List.take_append_drop]
    have e1 : (lcells (l.take k)).length = k * 3 := by rw [lcells_len, List.length_take]; omega
    have e2 : (lcells (l.drop k)).length = (n - k) * 3 := by rw [lcells_len, List.length_drop]; omega
    by_cases e : c = k
    · have hkn : k = n := by omega
      have hd : lcells (l.drop k) = [] := List.eq_nil_of_length_eq_zero (by rw [e2]; omega)
      rw [if_pos e, hd]
      exact .inr ⟨a, n - k, c - k, rfl, by omega, by omega, by simp; omega, fun i u hu => by simp at hu⟩
    · rw [if_neg e]
      refine .inr ⟨a.add (k * 3), n - k, c - k, rfl, by omega, by omega, e2, fun i u hu => ?_⟩
      rw [Addr.add_add]
      obtain ⟨a', ea, d⟩ := hg (k * 3 + i) u (by rw [e0, List.getElem?_append_right (by omega), e1, Nat.add_sub_cancel_left]; exact hu)
      cases ea
      exact d
theorem lines_len {w : World} {s : Option Addr} {n c : Nat} {l : List PL} (h : SliceIs w (.slice s n c) 3 (lcells l)) : n = l.length ∧ n ≤ c ∧ c ≤ maxLen := by
  obtain ⟨s', n', c', e, hn, h1, h2, _⟩ := h.get
  cases e
  rw [lcells_len] at hn
  exact ⟨by omega, h1, h2⟩
theorem steps_len {w : World} {s : Option Addr} {n c : Nat} {l : List PS} (h : SliceIs w (.slice s n c) 2 (scells l)) : n = l.length ∧ n ≤ c ∧ c ≤ maxLen := by
  obtain ⟨s', n', c', e, hn, h1, h2, _⟩ := h.get
  cases e
  rw [scells_len] at hn
  exact ⟨by omega, h1, h2⟩
theorem step_cells {w : World} {ad : Addr} {n c : Nat} {l : List PS} (h : SliceIs w (.slice (some ad) n c) 2 (scells l)) {k : Nat} (hk : k < l.length) :
    w.cell? (ad.add (k * 2)) = some (.string (bs l[k].k)) ∧ w.cell? ⟨(ad.add (k * 2)).block, (ad.add (k * 2)).off + 1, none⟩ = some (.string (bs l[k].n)) := by
  obtain ⟨s', n', c', e, _, _, _, hg⟩ := h.get
  cases e
  obtain ⟨x0, x1⟩ := scells_get l k hk
  obtain ⟨a, e, d0⟩ := hg _ _ x0
  cases e
  obtain ⟨a, e, d1⟩ := hg _ _ x1
  cases e
  exact ⟨d0, cell_at d1⟩
theorem file_cells {w : World} {ad : Addr} {n c : Nat} {l : List PF} (h : SliceIs w (.slice (some ad) n c) 2 (fcells l)) {k : Nat} (hk : k < l.length) :
    w.cell? (ad.add (k * 2)) = some (.string (bs l[k].n)) ∧ w.cell? ⟨(ad.add (k * 2)).block, (ad.add (k * 2)).off + 1, none⟩ = some (.string (bs l[k].d)) := by
  obtain ⟨s', n', c', e, _, _, _, hg⟩ := h.get
  cases e
  obtain ⟨x0, x1⟩ := fcells_get l k hk
  obtain ⟨a, e, d0⟩ := hg _ _ x0
  cases e
  obtain ⟨a, e, d1⟩ := hg _ _ x1
  cases e
  exact ⟨d0, cell_at d1⟩
/-- is a name among the first steps? -/
def inB (p : List PS) (j : Nat) (n : List UInt8) : Bool := (p.take j).any fun s => s.n == n
theorem inB_zero (p : List PS) (n : List UInt8) : inB p 0 n = false := by simp [inB]
theorem inB_next {p : List PS} {j : Nat} (h : j < p.length) (n : List UInt8) : inB p (j + 1) n = (inB p j n || p[j].n == n) := by
  unfold inB
  rw [List.take_succ_eq_append_getElem h, List.any_append]
  simp
theorem inB_all {p : List PS} {n : List UInt8} (h : ∃ s ∈ p, s.n = n) : inB p p.length n = true := by
  obtain ⟨s, hs, e⟩ := h
  unfold inB
  rw [List.take_length, List.any_eq_true]
  exact ⟨s, hs, by simp [e]⟩
attribute [irreducible] inB
end Go.Proofs.YtapdfgnfblkncaaGreatDoor
