/- Plain laws of the document's receiver: what it tells of a frame is what the package's tells. -/
import Derived.Test.YtnjkopjbognpiaaDoorRefWinP
namespace Go.Proofs.YtnjkopjbognpiaaDoor
open Go.RowKit
set_option linter.unusedVariables false

def prs (l : List PK) : List (Int × List UInt8) := l.map fun x => (x.n, x.d)
theorem lk_cons (a : Int) (b : List UInt8) (m : List (Int × List UInt8)) (k : Int) : lk ((a, b) :: m) k = if a = k then some b else lk m k := by
  unfold lk
  by_cases h : a = k
  · rw [List.find?_cons_of_pos (by simpa using h), if_pos h]; rfl
  · rw [List.find?_cons_of_neg (by simpa using h), if_neg h]
theorem prs_cons (x : PK) (l : List PK) : prs (x :: l) = (x.n, x.d) :: prs l := rfl
def Nod (l : List PK) : Prop := (l.map PK.n).Nodup
theorem plI_at (l : List Int) (n : Int) : ∀ (k : Int), 0 ≤ k → 0 ≤ plI l n k → ∃ j : Nat, plI l n k = k + j ∧ l[j]? = some n := by
  induction l with
  | nil => intro k _ h; unfold plI at h; omega
  | cons x l ih =>
    intro k hk h
    unfold plI at h ⊢
    by_cases hx : x = n
    · rw [if_pos hx]
      exact ⟨0, by simp, by simp [hx]⟩
    · rw [if_neg hx] at h ⊢
      obtain ⟨j, e, hj⟩ := ih (k + 1) (by omega) h
      exact ⟨j + 1, by rw [e]; omega, by simpa using hj⟩
def dix (l : List PK) (n : Int) : Int := plI (l.map PK.n) n 0
theorem dix_at {l : List PK} {n : Int} (h : 0 ≤ dix l n) : ∃ (j : Nat) (x : PK), dix l n = j ∧ l[j]? = some x ∧ x.n = n := by
  obtain ⟨j, e, hj⟩ := plI_at (l.map PK.n) n 0 (by omega) h
  rw [List.getElem?_map] at hj
  obtain ⟨x, hx, hn⟩ := Option.map_eq_some_iff.1 hj
  exact ⟨j, x, by unfold dix; rw [e]; omega, hx, hn⟩
theorem dix_mem (l : List PK) (n : Int) : 0 ≤ dix l n ↔ n ∈ l.map PK.n := plI_neg _ n 0 (by omega)
theorem dix_lk (l : List PK) (n : Int) : 0 ≤ dix l n ↔ (lk (prs l) n).isSome = true := (dix_mem l n).trans (lk_mem l n).symm
theorem lk_none_of {l : List PK} {n : Int} (h : ¬ 0 ≤ dix l n) : lk (prs l) n = none := by
  rw [dix_lk] at h
  cases e : lk (prs l) n with
  | none => rfl
  | some _ => rw [e] at h; simp at h
theorem lk_get {l : List PK} (hn : Nod l) : ∀ {j : Nat} {x : PK}, l[j]? = some x → lk (prs l) x.n = some x.d := by
  induction l with
  | nil => intro j x h; simp at h
  | cons y l ih =>
    intro j x h
    have hn' := List.nodup_cons.1 (show ((y :: l).map PK.n).Nodup from hn)
    rw [prs_cons, lk_cons]
    match j, h with
    | 0, h => simp at h; subst h; rw [if_pos rfl]
    | j + 1, h =>
      have hm : x.n ∈ l.map PK.n := List.mem_map.2 ⟨x, List.mem_of_getElem? (by simpa using h), rfl⟩
      rw [if_neg (fun (e : y.n = x.n) => hn'.1 (e ▸ hm))]
      exact ih hn'.2 (by simpa using h)
theorem lk_erase {l : List PK} (hn : Nod l) : ∀ {j : Nat} {x : PK}, l[j]? = some x → ∀ k, lk (prs (l.eraseIdx j)) k = if x.n = k then none else lk (prs l) k := by
  induction l with
  | nil => intro j x h; simp at h
  | cons y l ih =>
    intro j x h k
    have hn' := List.nodup_cons.1 (show ((y :: l).map PK.n).Nodup from hn)
    match j, h with
    | 0, h =>
      simp at h; subst h
      rw [List.eraseIdx_cons_zero, prs_cons, lk_cons]
      by_cases e : y.n = k
      · rw [if_pos e]
        have : ¬ k ∈ l.map PK.n := e ▸ hn'.1
        have h2 : ¬ (lk (l.map fun x => (x.n, x.d)) k).isSome = true := fun h3 => this ((lk_mem l k).1 h3)
        cases e2 : lk (prs l) k with
        | none => rfl
        | some _ => exact absurd (by show (lk (prs l) k).isSome = true; rw [e2]; rfl) h2
      · rw [if_neg e, if_neg e]
    | j + 1, h =>
      have h' : l[j]? = some x := by simpa using h
      have hm : x.n ∈ l.map PK.n := List.mem_map.2 ⟨x, List.mem_of_getElem? h', rfl⟩
      rw [List.eraseIdx_cons_succ, prs_cons, lk_cons, ih hn'.2 h' k, prs_cons, lk_cons]
      by_cases e : y.n = k
      · rw [if_pos e, if_pos e, if_neg (fun e2 => hn'.1 (by rw [e, ← e2]; exact hm))]
      · rw [if_neg e, if_neg e]
theorem nod_erase {l : List PK} (hn : Nod l) (j : Nat) : Nod (l.eraseIdx j) := by
  unfold Nod at *
  exact List.Nodup.sublist (List.Sublist.map _ (List.eraseIdx_sublist l j)) hn
def dat (l : List PK) (k : Nat) : List UInt8 := ((l[k]?).map PK.d).getD []
theorem dat_at {l : List PK} {k : Nat} {x : PK} (h : l[k]? = some x) : dat l k = x.d := by unfold dat; rw [h]; rfl
/-- what the document's receiver tells -/
def drainD : Nat → Int → List PK → List (List UInt8) × Int × List PK
  | 0, due, l => ([], due, l)
  | f + 1, due, l => if 0 ≤ dix l due then (dat l (dix l due).toNat :: (drainD f (md (due + 1)) (l.eraseIdx (dix l due).toNat)).1, (drainD f (md (due + 1)) (l.eraseIdx (dix l due).toNat)).2) else ([], due, l)
theorem drainD_no {due : Int} {l : List PK} (h : ¬ 0 ≤ dix l due) (f : Nat) : drainD f due l = ([], due, l) := by
  cases f with
  | zero => rfl
  | succ f => unfold drainD; rw [if_neg h]
theorem drainD_yes {due : Int} {l : List PK} (h : 0 ≤ dix l due) (f : Nat) : drainD (f + 1) due l = (dat l (dix l due).toNat :: (drainD f (md (due + 1)) (l.eraseIdx (dix l due).toNat)).1, (drainD f (md (due + 1)) (l.eraseIdx (dix l due).toNat)).2) := by
  conv => lhs; unfold drainD
  rw [if_pos h]
theorem dix_len {l : List PK} {due : Int} (h : 0 ≤ dix l due) : (l.eraseIdx (dix l due).toNat).length + 1 = l.length := by
  obtain ⟨j, x, e, hj, _⟩ := dix_at h
  have hlt := (List.getElem?_eq_some_iff.1 hj).1
  rw [e, Int.toNat_natCast, List.length_eraseIdx, if_pos hlt]; omega
theorem drain_same (f : Nat) : ∀ (due : Int) (m : List (Int × List UInt8)) (l : List PK), (∀ k, lk m k = lk (prs l) k) → Nod l →
    (drainD f due l).1 = (drain f due m).1 ∧ (drainD f due l).2.1 = (drain f due m).2.1 ∧ (∀ k, lk (drain f due m).2.2 k = lk (prs (drainD f due l).2.2) k) ∧ Nod (drainD f due l).2.2 ∧ (drainD f due l).2.2.length ≤ l.length := by
  induction f with
  | zero => intro due m l h hn; exact ⟨rfl, rfl, h, hn, Nat.le_refl _⟩
  | succ f ih =>
    intro due m l h hn
    by_cases hd : 0 ≤ dix l due
    · obtain ⟨j, x, e, hj, hx⟩ := dix_at hd
      have hlk : lk m due = some x.d := by rw [h, ← hx]; exact lk_get hn hj
      have hlen := dix_len hd
      rw [drainD_yes hd, drain_some hlk, e, Int.toNat_natCast, dat_at hj]
      rw [e, Int.toNat_natCast] at hlen
      obtain ⟨a1, a2, a3, a4, a5⟩ := ih (md (due + 1)) (mdel m due) (l.eraseIdx j) (fun k => by
        rw [lk_erase hn hj k]
        by_cases ek : x.n = k
        · rw [if_pos ek, ← ek, hx, lk_del_same]
        · rw [if_neg ek, lk_del_other m (fun e2 => ek (by rw [hx, e2])), h]) (nod_erase hn j)
      exact ⟨by rw [a1], a2, a3, a4, by simp only; omega⟩
    · have hlk : lk m due = none := by rw [h]; exact lk_none_of hd
      rw [drainD_no hd, drain_none hlk]
      exact ⟨rfl, rfl, h, hn, Nat.le_refl _⟩
theorem drain_more (f : Nat) : ∀ (g : Nat) (due : Int) (m : List (Int × List UInt8)), m.length ≤ f → f ≤ g → drain f due m = drain g due m := by
  induction f with
  | zero =>
    intro g due m hm _
    have : m = [] := List.eq_nil_of_length_eq_zero (by omega)
    subst this
    rw [drain_none (lk_nil _), drain_none (lk_nil _)]
  | succ f ih =>
    intro g due m hm hg
    obtain ⟨g, rfl⟩ : ∃ k, g = k + 1 := ⟨g - 1, by omega⟩
    cases h : lk m due with
    | none => rw [drain_none h, drain_none h]
    | some s => rw [drain_some h, drain_some h, ih g _ _ (by have := mdel_len h; omega) (by omega)]
def takeD (F : Nat) (due : Int) (l : List PK) (k : Int) (s : List UInt8) : List (List UInt8) × Int × List PK :=
  if wlB k = true ∧ ¬ 0 ≤ dix l k ∧ md (k - due) < 32 then drainD F due (l ++ [⟨k, s⟩]) else ([], due, l)
theorem takeD_yes {F : Nat} {due : Int} {l : List PK} {k : Int} {s : List UInt8} (h : wlB k = true ∧ ¬ 0 ≤ dix l k ∧ md (k - due) < 32) : takeD F due l k s = drainD F due (l ++ [⟨k, s⟩]) := by unfold takeD; rw [if_pos h]
theorem takeD_no {F : Nat} {due : Int} {l : List PK} {k : Int} {s : List UInt8} (h : ¬ (wlB k = true ∧ ¬ 0 ≤ dix l k ∧ md (k - due) < 32)) : takeD F due l k s = ([], due, l) := by unfold takeD; rw [if_neg h]
theorem prs_append (l m : List PK) : prs (l ++ m) = prs l ++ prs m := by unfold prs; simp
theorem lk_append (m n : List (Int × List UInt8)) (k : Int) : lk (m ++ n) k = match lk m k with | some d => some d | none => lk n k := by
  induction m with
  | nil => rfl
  | cons p m ih =>
    obtain ⟨a, b⟩ := p
    rw [List.cons_append, lk_cons, lk_cons, ih]
    by_cases h : a = k
    · rw [if_pos h, if_pos h]
    · rw [if_neg h, if_neg h]
/-- both tell the same of a frame -/
theorem take_same {F : Nat} {due : Int} {m : List (Int × List UInt8)} {l : List PK} (h : SameWait m l) (hn : Nod l) (k : Int) (s : List UInt8) (hF : m.length + 1 ≤ F) :
    (takeD F due l k s).1 = (takeR due m k s).1 ∧ (takeD F due l k s).2.1 = (takeR due m k s).2.1 ∧ SameWait (takeR due m k s).2.2 (takeD F due l k s).2.2 ∧ Nod (takeD F due l k s).2.2 ∧ (takeD F due l k s).2.2.length ≤ l.length + 1 := by
  have h' : ∀ k, lk m k = lk (prs l) k := h
  by_cases hc : wlB k = true ∧ ¬ 0 ≤ dix l k ∧ md (k - due) < 32
  · have hk : lk m k = none := by rw [h']; exact lk_none_of hc.2.1
    rw [takeD_yes hc, takeR_yes ⟨hc.1, hk, hc.2.2⟩]
    have hml : (mput m k s).length ≤ m.length + 1 := by
      unfold mput mdel
      have := List.length_filter_le (fun p : Int × List UInt8 => !(p.1 == k)) m
      simp only [List.length_cons]; omega
    rw [drain_more _ F due (mput m k s) (Nat.le_refl _) (by omega)]
    have hnod : Nod (l ++ [⟨k, s⟩]) := by
      unfold Nod at *
      rw [List.map_append, List.nodup_append]
      refine ⟨hn, by simp, fun a ha b hb e => ?_⟩
      simp at hb
      exact hc.2.1 ((dix_mem l k).2 (by rw [← hb, ← e]; exact ha))
    obtain ⟨a1, a2, a3, a4, a5⟩ := drain_same F due (mput m k s) (l ++ [⟨k, s⟩]) (fun j => by
      rw [prs_append, lk_append, show prs [(⟨k, s⟩ : PK)] = [(k, s)] from rfl, lk_cons, lk_nil]
      by_cases e : k = j
      · subst e
        rw [lk_put_same, ← h', hk]; simp
      · rw [lk_put_other m s (fun e2 => e e2.symm), h', if_neg e]
        cases lk (prs l) j <;> rfl) hnod
    exact ⟨a1, a2, a3, a4, by simpa using a5⟩
  · have hc' : ¬ (wlB k = true ∧ lk m k = none ∧ md (k - due) < 32) := fun ⟨c1, c2, c3⟩ => hc ⟨c1, (fun hd => by
      rw [dix_lk, ← h', c2] at hd
      cases hd), c3⟩
    rw [takeD_no hc, takeR_no hc']
    exact ⟨rfl, rfl, h, hn, Nat.le_succ _⟩
end Go.Proofs.YtnjkopjbognpiaaDoor
