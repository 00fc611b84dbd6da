/- Texts of one proof, one behind the other: Laid. -/
import Derived.Test.YtdpoalbbcmkceaaGreatDoorB03
import Derived.Stop.LaidTwo
import Derived.MakeChecks
/- What a row's listed errors give a walk: each variable's cell, the pointees, that they are different. -/
namespace Go.Proofs.YtdpoalbbcmkceaaGreatDoor
open Go.RowKit Go.ChangeShapes

def nameOf : Nat → String
  | 1 => "packhorse/api.ErrText"
  | 2 => "packhorse/api.ErrBound"
  | 3 => "packhorse/api.ErrShape"
  | 4 => "packhorse/api.ErrKind"
  | 5 => "packhorse/api.ErrName"
  | 6 => "packhorse/api.ErrNone"
  | 7 => "packhorse/api.ErrExist"
  | 8 => "packhorse/api.ErrFull"
  | 9 => "packhorse/api.ErrOrder"
  | 10 => "packhorse/api.ErrSum"
  | 11 => "packhorse/api.ErrStale"
  | 12 => "packhorse/api.ErrOff"
  | 13 => "strconv.ErrSyntax"
  | 14 => "strconv.ErrRange"
  | _ => ""
def textOf : Nat → List UInt8
  | 1 => [112, 97, 99, 107, 104, 111, 114, 115, 101, 58, 32, 116, 101, 120, 116]
  | 2 => [112, 97, 99, 107, 104, 111, 114, 115, 101, 58, 32, 98, 111, 117, 110, 100]
  | 3 => [112, 97, 99, 107, 104, 111, 114, 115, 101, 58, 32, 115, 104, 97, 112, 101]
  | 4 => [112, 97, 99, 107, 104, 111, 114, 115, 101, 58, 32, 107, 105, 110, 100]
  | 5 => [112, 97, 99, 107, 104, 111, 114, 115, 101, 58, 32, 110, 97, 109, 101]
  | 6 => [112, 97, 99, 107, 104, 111, 114, 115, 101, 58, 32, 110, 111, 110, 101]
  | 7 => [112, 97, 99, 107, 104, 111, 114, 115, 101, 58, 32, 101, 120, 105, 115, 116]
  | 8 => [112, 97, 99, 107, 104, 111, 114, 115, 101, 58, 32, 102, 117, 108, 108]
  | 9 => [112, 97, 99, 107, 104, 111, 114, 115, 101, 58, 32, 111, 114, 100, 101, 114]
  | 10 => [112, 97, 99, 107, 104, 111, 114, 115, 101, 58, 32, 115, 117, 109]
  | 11 => [112, 97, 99, 107, 104, 111, 114, 115, 101, 58, 32, 115, 116, 97, 108, 101]
  | 12 => [112, 97, 99, 107, 104, 111, 114, 115, 101, 58, 32, 111, 102, 102]
  | 13 => [105, 110, 118, 97, 108, 105, 100, 32, 115, 121, 110, 116, 97, 120]
  | 14 => [118, 97, 108, 117, 101, 32, 111, 117, 116, 32, 111, 102, 32, 114, 97, 110, 103, 101]
  | _ => []
/-- one listed error -/
def entry (c : Nat) : String × DataW Unit := (nameOf c, .iface "*errors.errorString" (.ptr (.agg [.lit (.string (textOf c))])))
/-- the pointee of a sentinel: a row of cells, not frozen; its cell holds a text -/
def Sent (W : World) (a : Addr) : Prop := (∃ cs t, W.heap[a.block]? = some (.cells cs t (0, 0))) ∧ ∃ s, W.cell? a = some (.string s)

theorem star : "*" ++ "errors.errorString" = "*errors.errorString" := by decide
theorem rowES (u : TypeId) (h : Tryz.prog.typeName? 3 u = some "*errors.errorString") : u = 237 :=
  typeName_ptr_named (nm := "errors.errorString") (by rw [star]; kernel_rfl) (by kernel_rfl) (by decide) u (by rw [star]; exact h)
theorem cellsES : Tryz.prog.cellsOf 255 = 1 := by kernel_rfl
theorem cellsStr : Tryz.prog.cellsOf 9 = 1 := by kernel_rfl

/-- each code's variable is there -/
noncomputable def known (l : List Nat) : Bool := l.all fun c => Tryz.prog.globalNamed (nameOf c) == some (gOf c) && (Tryz.prog.globals[gOf c]?).map (·.type) == some 28

set_option maxRecDepth 100000 in
theorem errs_places {W : World} : ∀ (l : List Nat) (ps : List MemPlace), known l = true → l.Nodup →
    DataW.LaidVars Tryz.prog W (l.map entry) ps → ps.Nodup →
    (∀ b off, MemPlace.cell b off ∈ ps → (∃ c t, W.heap[b]? = some (.cells c t (0, 0))) ∧ ∀ u v, W.cell? ⟨b, off, none⟩ = some (.iface u v) → Value.okWide Tryz.prog W .any 0 u v) →
    ∃ E : Nat → Addr, (∀ c ∈ l, Has E W c ∧ Sent W (E c) ∧ MemPlace.cell (E c).block (E c).off ∈ ps) ∧ ∀ c ∈ l, ∀ c' ∈ l, c ≠ c' → E c ≠ E c'
  | [], ps, _, _, _, _, _ => ⟨fun _ => ⟨0, 0, none⟩, fun _ h => (by cases h), fun _ h => (by cases h)⟩
  | c :: l, ps, hk, hl, h, hnd, hrows => by
    obtain ⟨g0, t0, cs0, f0, p0, q0, hg0, ht0, hv0, hd0, hr, rfl⟩ := h
    have hk' : Tryz.prog.globalNamed (nameOf c) = some (gOf c) ∧ (Tryz.prog.globals[gOf c]?).map (·.type) = some 28 ∧ known l = true := by
      simp only [known, List.all_cons, Bool.and_eq_true, beq_iff_eq] at hk
      exact ⟨hk.1.1, hk.1.2, hk.2⟩
    obtain ⟨k1, k2, k3⟩ := hk'
    generalize hgg : gOf c = G at k1 k2
    obtain ⟨E, hE1, hE2⟩ := errs_places l q0 k3 (List.nodup_cons.1 hl).2 hr (List.Nodup.sublist (List.sublist_append_right _ _) hnd) (fun b off hm => hrows b off (List.mem_append_right _ hm))
    obtain rfl := Option.some.inj (k1.symm.trans hg0)
    obtain rfl := Option.some.inj (k2.symm.trans ht0)
    have hc0 : c ∉ l := (List.nodup_cons.1 hl).1
    obtain ⟨l0⟩ := cs0
    have ok0 : ∀ u v, l0 = [.iface u v] → Value.okWide Tryz.prog W .any 0 u v := fun u v e => by
      subst e
      exact (hrows G 0 (by simp [MemPlace.row])).2 u v (by simpa using World.var?_cell hg0 hv0 0)
    obtain ⟨a0, s0, rfl, hca, hs0, hz0, rfl⟩ := errorString_of_trod Tryz.underlying28 rowES Tryz.underlying237 Tryz.underlying255 rfl rfl Tryz.underlying9 cellsES cellsStr hd0 ok0
    have hmem : MemPlace.cell a0.block a0.off ∈ MemPlace.row ⟨G, 0, none⟩ 1 ++ MemPlace.row a0 1 ++ q0 := by simp [MemPlace.row]
    have hout : ∀ c' ∈ l, E c' ≠ a0 := by
      intro c' hc' e
      have := (hE1 c' hc').2.2
      rw [e] at this
      rw [List.nodup_append] at hnd
      exact hnd.2.2 _ (by simp [MemPlace.row]) _ this rfl
    refine ⟨fun x => if x = c then a0 else E x, ?_, ?_⟩
    · intro x hx
      by_cases e : x = c
      · subst e
        simp only [if_true]
        refine ⟨?_, ⟨(hrows a0.block a0.off hmem).1, s0, hca⟩, hmem⟩
        have := World.var?_cell hg0 hv0 0
        unfold Has
        rw [hgg]
        simpa [errv] using this
      · have hx' : x ∈ l := by
          rcases List.mem_cons.1 hx with h | h
          · exact absurd h e
          · exact h
        simp only [if_neg e]
        have := hE1 x hx'
        refine ⟨?_, this.2.1, List.mem_append_right _ this.2.2⟩
        have h1 := this.1
        unfold Has at h1 ⊢
        simpa [if_neg e] using h1
    · intro x hx y hy hxy
      by_cases e : x = c
      · subst e
        have hy' : y ∈ l := by
          rcases List.mem_cons.1 hy with h | h
          · exact absurd h.symm hxy
          · exact h
        simp only [if_true, if_neg (Ne.symm hxy)]
        exact (hout y hy').symm
      · have hx' : x ∈ l := by
          rcases List.mem_cons.1 hx with h | h
          · exact absurd h e
          · exact h
        by_cases e' : y = c
        · subst e'
          simp only [if_neg e, if_true]
          exact hout x hx'
        · have hy' : y ∈ l := by
            rcases List.mem_cons.1 hy with h | h
            · exact absurd h e'
            · exact h
          simp only [if_neg e, if_neg e']
          exact hE2 x hx' y hy' hxy

/-- WHAT A LIST OF ERRORS GIVES -/
theorem errs_of_laid {W : World} {l : List Nat} (h : laidMet Tryz.prog (l.map entry) W) (hk : known l = true) (hl : l.Nodup) :
    ∃ E : Nat → Addr, (∀ c ∈ l, Has E W c ∧ Sent W (E c)) ∧ ∀ c ∈ l, ∀ c' ∈ l, c ≠ c' → E c ≠ E c' := by
  obtain ⟨ps, h1, h2, h3⟩ := h
  obtain ⟨E, e1, e2⟩ := errs_places l ps hk hl h1 h2 h3
  exact ⟨E, fun c hc => ⟨(e1 c hc).1, (e1 c hc).2.1⟩, e2⟩
end Go.Proofs.YtdpoalbbcmkceaaGreatDoor
