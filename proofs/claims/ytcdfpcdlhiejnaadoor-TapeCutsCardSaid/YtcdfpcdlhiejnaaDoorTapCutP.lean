/- Plain law of a tape that is cut: what is there is whole records, and a beginning of one. No program is in sight. -/
import Derived.Test.YtcdfpcdlhiejnaaDoorTapPlain
namespace Go.Proofs.YtcdfpcdlhiejnaaDoor
open Go.RowKit
set_option linter.unusedVariables false

structure CutI (done : List (List UInt8)) (d : TP) : Prop where
  few : ∀ s ∈ done, s.length ≤ 200
  off : d.off = false ∧ 0 ≤ d.cut ∧ d.b = recsL done ∨ d.off = true ∧ ∃ p, d.b = recsL done ++ p ∧ oneL p = none ∧ p.length ≤ 208
theorem CutI.len {done : List (List UInt8)} {d : TP} (h : CutI done d) : d.b.length ≤ (done.length + 1) * 208 := by
  have := recsL_le done h.few
  rcases h.off with ⟨_, _, e⟩ | ⟨_, p, e, _, hp⟩
  · rw [e]; omega
  · rw [e, List.length_append]; omega
theorem CutI.start (c : Int) (hc : 0 ≤ c) : CutI [] ⟨[], false, c⟩ := ⟨by simp, .inl ⟨rfl, hc, rfl⟩⟩
theorem CutI.read {done : List (List UInt8)} {d : TP} (h : CutI done d) : readL d.b = (done, (recsL done).length) := by
  have hd : ∀ s ∈ done, s.length ≤ 20000 := fun s hs => Nat.le_trans (h.few s hs) (by decide)
  rcases h.off with ⟨_, _, e⟩ | ⟨_, p, e, hp, _⟩
  · have := readL_part done hd (p := []) rfl
    rw [List.append_nil] at this
    rw [e, this]
  · rw [e, readL_part done hd hp]
theorem CutI.rcv {done : List (List UInt8)} {d : TP} (h : CutI done d) : rcT d = ⟨recsL done, false, -1⟩ := by
  unfold rcT
  rw [h.read]
  simp only
  rcases h.off with ⟨_, _, e⟩ | ⟨_, p, e, hp, _⟩
  · rw [e, List.take_length]
  · rw [e, List.take_left]
theorem CutI.step {done : List (List UInt8)} {d : TP} (h : CutI done d) (s : List UInt8) (hs : s.length ≤ 200) (hn : done.length ≤ 1000) :
    apC d s = 0 ∧ CutI (done ++ [s]) (apT d s) ∨ apC d s = 12 ∧ CutI done (apT d s) := by
  have hl := h.len
  have hr := recL_le (s := s) (by omega)
  have e1 : apC d s = wrC d (recL s) := by unfold apC; rw [if_neg (by omega), if_neg (by omega)]
  have e2 : apT d s = wrT d (recL s) := by unfold apT; rw [if_neg (by omega), if_neg (by omega)]
  rw [e1, e2]
  rcases h.off with ⟨ho, hc, e⟩ | ⟨ho, p, e, hp⟩
  · by_cases hcut : 0 ≤ d.cut ∧ d.cut < (recL s).length
    · right
      have f1 : wrC d (recL s) = 12 := by unfold wrC; rw [if_neg (by rw [ho]; decide), if_pos hcut]
      have f2 : wrT d (recL s) = ⟨d.b ++ (recL s).take d.cut.toNat, true, d.cut⟩ := by unfold wrT; rw [if_neg (by rw [ho]; decide), if_pos hcut]
      rw [f1, f2]
      refine ⟨rfl, h.few, .inr ⟨rfl, (recL s).take d.cut.toNat, by rw [e], ?_, by rw [List.length_take]; omega⟩⟩
      refine one_part (s := s) (q := (recL s).drop d.cut.toNat) (by omega) (List.take_append_drop _ _).symm (fun hq => ?_)
      have := congrArg List.length hq
      rw [List.length_drop] at this
      simp at this
      omega
    · left
      have f1 : wrC d (recL s) = 0 := by unfold wrC; rw [if_neg (by rw [ho]; decide), if_neg hcut]
      have f2 : wrT d (recL s) = ⟨d.b ++ recL s, d.off, if 0 ≤ d.cut then d.cut - (recL s).length else d.cut⟩ := by unfold wrT; rw [if_neg (by rw [ho]; decide), if_neg hcut]
      rw [f1, f2]
      refine ⟨rfl, fun t ht => ?_, .inl ⟨ho, ?_, by rw [recsL_snoc, e]⟩⟩
      · rcases List.mem_append.1 ht with ht | ht
        · exact h.few t ht
        · simp at ht; subst ht; exact hs
      · simp only
        rw [if_pos hc]
        omega
  · right
    unfold wrC wrT
    rw [if_pos ho, if_pos ho]
    exact ⟨rfl, h⟩
end Go.Proofs.YtcdfpcdlhiejnaaDoor
