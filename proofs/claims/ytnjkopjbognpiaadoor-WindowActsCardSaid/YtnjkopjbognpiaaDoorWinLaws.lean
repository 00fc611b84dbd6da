/- The laws of a window: whatever is lost, doubled, turned around: what is told is what was pushed. No program is in sight. -/
import Derived.Test.YtnjkopjbognpiaaDoorWinPlain
namespace Go.Proofs.YtnjkopjbognpiaaDoor
open Go.RowKit
set_option linter.unusedVariables false

/-! ### what is lost, doubled, turned around: the laws of a window -/
def numI (st : Int) (i : Nat) : Int := md (st + i)
theorem numI_well (st : Int) (i : Nat) : wlB (numI st i) = true := md_well _
theorem numI_bd (st : Int) (i : Nat) : 0 ≤ numI st i ∧ numI st i < 65536 := md_lt _
theorem numI_zero {st : Int} (h : 0 ≤ st ∧ st < 65536) : numI st 0 = st := by unfold numI md; omega
theorem numI_succ (st : Int) (i : Nat) : md (numI st i + 1) = numI st (i + 1) := by unfold numI md; omega
theorem numI_diff (st : Int) (i j : Nat) (hi : i ≤ 1000) (hj : j ≤ 1000) : md (numI st i - numI st j) = if j ≤ i then ((i - j : Nat) : Int) else 65536 - ((j - i : Nat) : Int) := by
  unfold numI md; split <;> omega
theorem numI_inj {st : Int} {i j : Nat} (hi : i ≤ 1000) (hj : j ≤ 1000) (h : numI st i = numI st j) : i = j := by unfold numI md at h; omega

/-- what an ack leaves of what was kept -/
def farOf (next oldest nx : Int) : Int := if wlB nx && decide (md (nx - oldest) ≤ md (next - oldest)) then md (nx - oldest) else 0
def goneB (far oldest : Int) (more : List Int) (k : PK) : Bool := decide (md (k.n - oldest) < far) || more.contains k.n
def sTake (next : Int) (l : List PK) (nx : Int) (more : List Int) : List PK :=
  match l with
  | [] => []
  | o :: r => (o :: r).filter fun k => !goneB (farOf next o.n nx) o.n more k
theorem sTake_nil (next nx : Int) (more : List Int) : sTake next [] nx more = [] := rfl
theorem sTake_cons (next : Int) (o : PK) (r : List PK) (nx : Int) (more : List Int) : sTake next (o :: r) nx more = (o :: r).filter fun k => !goneB (farOf next o.n nx) o.n more k := rfl
theorem sTake_len (next : Int) (l : List PK) (nx : Int) (more : List Int) : (sTake next l nx more).length ≤ l.length := by
  cases l with
  | nil => simp [sTake]
  | cons o r => rw [sTake_cons]; exact List.length_filter_le _ _
def ackMore (due : Int) (m : List (Int × List UInt8)) : List Int := ((List.range 32).map fun i : Nat => md (due + i)).filter fun k => (lk m k).isSome
def pkI (st : Int) (T : Nat → List UInt8) (i : Nat) : PK := ⟨numI st i, T i⟩

structure Wait (st : Int) (T : Nat → List UInt8) (N d : Nat) (m : List (Int × List UInt8)) : Prop where
  le : d ≤ N
  of : ∀ k t, lk m k = some t → ∃ i, d ≤ i ∧ i < N ∧ k = numI st i ∧ t = T i
def Cov (st : Int) (N d : Nat) (m : List (Int × List UInt8)) (js : List Nat) : Prop := ∀ i, i < N → i ∈ js ∨ i < d ∨ (lk m (numI st i)).isSome = true

theorem drain_law {st : Int} {T : Nat → List UInt8} {N : Nat} (hN : N ≤ 100) (js : List Nat) (f : Nat) : ∀ (d : Nat) (m : List (Int × List UInt8)), Wait st T N d m → Cov st N d m js → m.length ≤ f →
    ∃ d', d ≤ d' ∧ (drain f (numI st d) m).1 = ((List.range d').drop d).map T ∧ (drain f (numI st d) m).2.1 = numI st d' ∧ Wait st T N d' (drain f (numI st d) m).2.2 ∧ Cov st N d' (drain f (numI st d) m).2.2 js ∧ lk (drain f (numI st d) m).2.2 (numI st d') = none := by
  induction f with
  | zero =>
    intro d m h c hm
    have : m = [] := List.eq_nil_of_length_eq_zero (by omega)
    subst this
    exact ⟨d, Nat.le_refl _, by simp [drain], rfl, h, c, rfl⟩
  | succ f ih =>
    intro d m h c hm
    cases hl : lk m (numI st d) with
    | none =>
      rw [drain_none hl]
      exact ⟨d, Nat.le_refl _, by simp, rfl, h, c, hl⟩
    | some s =>
      rw [drain_some hl, numI_succ]
      obtain ⟨i, hi1, hi2, hi3, hi4⟩ := h.of _ _ hl
      have hid : d = i := numI_inj (by omega) (by omega) hi3
      subst hid
      have hw : Wait st T N (d + 1) (mdel m (numI st d)) := by
        refine ⟨by omega, fun k t hk => ?_⟩
        have hne : k ≠ numI st d := by rintro rfl; rw [lk_del_same] at hk; cases hk
        rw [lk_del_other m hne] at hk
        obtain ⟨j, hj1, hj2, rfl, hj4⟩ := h.of _ _ hk
        exact ⟨j, by have : j ≠ d := fun e => hne (by rw [e]); omega, hj2, rfl, hj4⟩
      have hc : Cov st N (d + 1) (mdel m (numI st d)) js := by
        intro i hi
        rcases c i hi with h | h | h
        · exact .inl h
        · exact .inr (.inl (by omega))
        · by_cases e : i = d
          · exact .inr (.inl (by omega))
          · exact .inr (.inr (by rw [lk_del_other m (fun x => e (numI_inj (by omega) (by omega) x))]; exact h))
      obtain ⟨d', h1, h2, h3, h4, h5, h6⟩ := ih (d + 1) (mdel m (numI st d)) hw hc (by have := mdel_len hl; omega)
      refine ⟨d', by omega, ?_, h3, h4, h5, h6⟩
      rw [h2, hi4]
      have : (List.range d').drop d = d :: (List.range d').drop (d + 1) := by
        rw [List.drop_eq_getElem_cons (by simp; omega)]; simp
      rw [this]; rfl

/-- what holds of the two sides, whatever has come -/
structure Once (st : Int) (T : Nat → List UInt8) (N d : Nat) (m : List (Int × List UInt8)) (js : List Nat) : Prop where
  w : Wait st T N d m
  c : Cov st N d m js
  due : lk m (numI st d) = none
  lt : ∀ j ∈ js, j < N
  sorted : js.Pairwise (· < ·)

theorem takeR_law {st : Int} {T : Nat → List UInt8} {N d : Nat} {m : List (Int × List UInt8)} {js : List Nat} (hN : N ≤ 30) (h : Once st T N d m js) (i : Nat) (hi : i < N) :
    ∃ d', d ≤ d' ∧ (takeR (numI st d) m (numI st i) (T i)).1 = ((List.range d').drop d).map T ∧ (takeR (numI st d) m (numI st i) (T i)).2.1 = numI st d' ∧ Once st T N d' (takeR (numI st d) m (numI st i) (T i)).2.2 (js.filter (· ≠ i)) := by
  by_cases hc : wlB (numI st i) = true ∧ lk m (numI st i) = none ∧ md (numI st i - numI st d) < 32
  · rw [takeR_yes hc]
    have hle := h.w.le
    have hdi : d ≤ i := by
      have := hc.2.2
      rw [numI_diff st i d (by omega) (by omega)] at this
      split at this <;> omega
    have hw : Wait st T N d (mput m (numI st i) (T i)) := by
      refine ⟨h.w.le, fun k t hk => ?_⟩
      by_cases e : k = numI st i
      · subst e; rw [lk_put_same] at hk; cases hk; exact ⟨i, hdi, hi, rfl, rfl⟩
      · rw [lk_put_other m _ e] at hk; exact h.w.of k t hk
    have hcv : Cov st N d (mput m (numI st i) (T i)) (js.filter (· ≠ i)) := by
      intro j hj
      by_cases e : j = i
      · subst e; exact .inr (.inr (by rw [lk_put_same]; rfl))
      · rcases h.c j hj with h | h | h
        · exact .inl (by simp [h, e])
        · exact .inr (.inl h)
        · exact .inr (.inr (by rw [lk_put_other m _ (fun x => e (numI_inj (by omega) (by omega) x))]; exact h))
    obtain ⟨d', h1, h2, h3, h4, h5, h6⟩ := drain_law (by omega) (js.filter (· ≠ i)) _ d _ hw hcv (Nat.le_refl _)
    exact ⟨d', h1, h2, h3, h4, h5, h6, fun j hj => h.lt j ((List.mem_filter.1 hj).1), h.sorted.filter _⟩
  · rw [takeR_no hc]
    refine ⟨d, Nat.le_refl _, by simp, rfl, h.w, fun j hj => ?_, h.due, fun j hj => h.lt j ((List.mem_filter.1 hj).1), h.sorted.filter _⟩
    by_cases e : j = i
    · subst e
      have hle := h.w.le
      by_cases hd : j < d
      · exact .inr (.inl hd)
      · refine .inr (.inr ?_)
        cases hl : lk m (numI st j) with
        | some _ => rfl
        | none =>
          refine absurd ⟨numI_well _ _, hl, ?_⟩ hc
          rw [numI_diff st j d (by omega) (by omega), if_pos (by omega)]; omega
    · rcases h.c j hj with h | h | h
      · exact .inl (by simp [h, e])
      · exact .inr (.inl h)
      · exact .inr (.inr h)
theorem Once.more {st : Int} {T : Nat → List UInt8} {N d : Nat} {m : List (Int × List UInt8)} {js js' : List Nat} (h : Once st T N d m js') (hs : ∀ j ∈ js', j ∈ js) (hl : ∀ j ∈ js, j < N) (hp : js.Pairwise (· < ·)) : Once st T N d m js :=
  ⟨h.w, fun i hi => (h.c i hi).imp (hs i) id, h.due, hl, hp⟩
/-- a frame that comes, the kept ones as they were -/
theorem takeR_law' {st : Int} {T : Nat → List UInt8} {N d : Nat} {m : List (Int × List UInt8)} {js : List Nat} (hN : N ≤ 30) (h : Once st T N d m js) (i : Nat) (hi : i < N) :
    ∃ d', d ≤ d' ∧ (takeR (numI st d) m (numI st i) (T i)).1 = ((List.range d').drop d).map T ∧ (takeR (numI st d) m (numI st i) (T i)).2.1 = numI st d' ∧ Once st T N d' (takeR (numI st d) m (numI st i) (T i)).2.2 js := by
  obtain ⟨d', h1, h2, h3, h4⟩ := takeR_law hN h i hi
  exact ⟨d', h1, h2, h3, h4.more (fun j hj => (List.mem_filter.1 hj).1) h.lt h.sorted⟩

theorem filter_map' {α β : Type} (f : α → β) (p : β → Bool) (l : List α) : (l.map f).filter p = (l.filter (p ∘ f)).map f := by
  induction l with
  | nil => rfl
  | cons a l ih => simp only [List.map_cons, List.filter_cons, Function.comp]; split <;> simp [ih, Function.comp_def]

/-- an ack -/
theorem sTake_law {st : Int} {T : Nat → List UInt8} {N d : Nat} {m : List (Int × List UInt8)} {js : List Nat} (hN : N ≤ 30) (h : Once st T N d m js) :
    ∃ js', sTake (numI st N) (js.map (pkI st T)) (numI st d) (ackMore (numI st d) m) = js'.map (pkI st T) ∧ Once st T N d m js' ∧ (d = N → js' = []) := by
  cases js with
  | nil => exact ⟨[], rfl, h, fun _ => rfl⟩
  | cons j0 r =>
    rw [List.map_cons, sTake_cons, ← List.map_cons, filter_map']
    have hle := h.w.le
    have hj0 := h.lt j0 (by simp)
    have hp := List.pairwise_cons.1 h.sorted
    have hfar : farOf (numI st N) (pkI st T j0).n (numI st d) = if j0 ≤ d then ((d - j0 : Nat) : Int) else 0 := by
      unfold farOf
      rw [numI_well, show (pkI st T j0).n = numI st j0 from rfl, numI_diff st d j0 (by omega) (by omega), numI_diff st N j0 (by omega) (by omega)]
      rw [if_pos (show j0 ≤ N by omega)]
      by_cases e : j0 ≤ d
      · rw [if_pos e, if_pos e, if_pos (by simp; omega)]
      · rw [if_neg e, if_neg e, if_neg (by simp; omega)]
    refine ⟨_, rfl, ⟨h.w, fun i hi => ?_, h.due, fun j hj => h.lt j ((List.mem_filter.1 hj).1), h.sorted.filter _⟩, ?_⟩
    · rcases h.c i hi with hc | hc | hc
      · by_cases hg : goneB (farOf (numI st N) (pkI st T j0).n (numI st d)) (pkI st T j0).n (ackMore (numI st d) m) (pkI st T i) = true
        · refine .inr ?_
          unfold goneB at hg
          simp only [Bool.or_eq_true, decide_eq_true_eq, List.contains_iff_mem] at hg
          rcases hg with hg | hg
          · left
            rw [hfar] at hg
            have hij : j0 ≤ i := by
              rcases List.mem_cons.1 hc with e | e
              · omega
              · have := hp.1 i e; omega
            rw [show (pkI st T i).n = numI st i from rfl, show (pkI st T j0).n = numI st j0 from rfl, numI_diff st i j0 (by omega) (by omega), if_pos hij] at hg
            split at hg <;> omega
          · right
            unfold ackMore at hg
            exact (List.mem_filter.1 hg).2
        · exact .inl (List.mem_filter.2 ⟨hc, by simpa using hg⟩)
      · exact .inr (.inl hc)
      · exact .inr (.inr hc)
    · intro hd
      subst hd
      rw [List.filter_eq_nil_iff]
      intro i hi
      have hij : j0 ≤ i := by
        rcases List.mem_cons.1 hi with e | e
        · omega
        · have := hp.1 i e; omega
      have hiN := h.lt i hi
      have : goneB (farOf (numI st d) (pkI st T j0).n (numI st d)) (pkI st T j0).n (ackMore (numI st d) m) (pkI st T i) = true := by
        unfold goneB
        rw [hfar, if_pos (by omega), show (pkI st T i).n = numI st i from rfl, show (pkI st T j0).n = numI st j0 from rfl, numI_diff st i j0 (by omega) (by omega), if_pos hij]
        simp; left; omega
      simp only [Function.comp]
      rw [this]; simp
/-- nothing is kept that has not come: all is told -/
theorem Once.all {st : Int} {T : Nat → List UInt8} {N d : Nat} {m : List (Int × List UInt8)} (h : Once st T N d m []) : d = N := by
  have := h.w.le
  by_cases e : d = N
  · exact e
  · rcases h.c d (by omega) with h1 | h1 | h1
    · cases h1
    · omega
    · rw [h.due] at h1; cases h1
theorem Once.start (st : Int) (T : Nat → List UInt8) (N : Nat) : Once st T N 0 [] (List.range N) :=
  ⟨⟨Nat.zero_le _, fun k t h => by cases h⟩, fun i hi => .inl (by simpa using hi), rfl, fun j hj => by simpa using hj, List.pairwise_lt_range⟩
end Go.Proofs.YtnjkopjbognpiaaDoor
