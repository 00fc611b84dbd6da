/- Plain facts for DeltaTells: sizes of ops' texts; the numbers of errors. -/
import Derived.Test.YtkhjhbgoccljfaaDoorRefReadOps
import Derived.Test.YtkhjhbgoccljfaaDoorDeltaText
import Derived.Test.YtkhjhbgoccljfaaDoorSignLaws
namespace Go.Proofs.YtkhjhbgoccljfaaDoor
open Go.RowKit
set_option linter.unusedVariables false

theorem chkO_code (l : List POp) : ∀ i, (chkO l i).1 ≤ 4 := by
  induction l with
  | nil => intro i; rw [chkO]; decide
  | cons o l ih => intro i; rw [chkO]; split; · exact ih _
                   · have := opC_cases o; show opC o ≤ 4; omega
theorem chkOps_code (l : List POp) : (chkOps l).1 ≤ 4 := by unfold chkOps; exact chkO_code l 0
theorem costN_bound (B : Nat) : ∀ l : List POp, (∀ o ∈ l, o.data.length ≤ B) → costN l ≤ B * l.length
  | [], _ => by rw [costN_nil]; omega
  | o :: l, h => by
    have := costN_bound B l fun o' ho => h o' (List.mem_cons_of_mem _ ho)
    have h2 := h o (List.mem_cons_self ..)
    rw [costN_cons, List.length_cons, Nat.mul_add]
    omega
theorem long_cost {l : List POp} (h : longB l = false) : l.length ≤ 40 ∧ costN l ≤ 160040 := by
  obtain ⟨h1, h2⟩ := longB_no h
  have := costN_bound 4001 l fun o ho => by have := (h2 o ho).1; omega
  refine ⟨h1, ?_⟩
  omega
theorem data_len {o : POp} (h : opC o = 0) : o.data.length ≤ 4000 := by
  rcases opC_kind h with hk | hk
  · rw [(opC_copy h hk).1]; simp
  · exact (opC_data h hk).2.2.2
theorem long_text {l : List POp} (h : longB l = false) (hc : (chkOps l).1 = 0) : ¬ 20000 < (oText l).length := by
  obtain ⟨h1, h2⟩ := longB_no h
  have h3 := (chkOps_ok l).1 hc
  have := costN_bound 100 l fun o ho => by have := (h2 o ho).1; have := data_len (h3 o ho); omega
  have := opsT_len l
  have := num_len l.length
  rw [oText_is]
  simp only [List.length_append]
  omega
theorem long_dt {l : List POp} (h : longB l = false) : dtC l = chkOps l ∧ ((chkOps l).1 = 0 → dtL l = oText l) ∧ ((chkOps l).1 ≠ 0 → dtL l = []) := by
  by_cases hc : (chkOps l).1 = 0
  · have := dt_fine hc (long_text h hc)
    exact ⟨by rw [this.1, chkOps_pair l hc], fun _ => this.2, fun h' => absurd hc h'⟩
  · have := dt_bad hc
    exact ⟨this.1, fun h' => absurd h' hc, fun _ => this.2⟩
theorem rEnd_le (l : List UInt8) (c : Nat) (h : c ≤ 12) : rEnd l c ≤ 12 := by
  by_cases hc : c = 0
  · subst hc
    by_cases hl : l = []
    · subst hl; rw [rEnd_nil]; omega
    · rw [rEnd_some hl]; omega
  · rw [rEnd_err l hc]; exact h
theorem rdOp_code (l : List UInt8) : (rdOp l).2.2 ≤ 12 := by
  have a := gC_cases l
  have b := gC_cases (gR l)
  have c := gC_cases (gR (gR l))
  have d := tC_cases (gR l)
  by_cases h0 : gC l = 0
  · by_cases hn : gN l = 0
    · by_cases h1 : gC (gR l) = 0
      · rw [rdOp_c2 h0 hn h1]; show gC _ ≤ 12; omega
      · rw [rdOp_c1 h0 hn h1]; omega
    · by_cases hn1 : gN l = 1
      · rw [rdOp_d h0 hn1]; show tC _ ≤ 12; omega
      · rw [rdOp_k h0 hn hn1]; omega
  · rw [rdOp_e1 h0]; omega
theorem roL_code : ∀ (f : Nat) (l : List UInt8) (c : Nat) (out : List POp), c ≤ 12 → (roL f l c out).2.2 ≤ 12
  | 0, l, c, out, h => by rw [roL_end]; exact h
  | f + 1, l, c, out, h => by
    by_cases hc : c = 0
    · subst hc; rw [roL_step (by omega)]; exact roL_code f _ _ _ (rdOp_code l)
    · rw [roL_err _ _ hc]; exact h
theorem readO_code (T : List UInt8) : (readO T).2 ≤ 12 := by
  by_cases h0 : 20000 < T.length
  · rw [readO_long h0]; show 2 ≤ 12; omega
  · by_cases h1 : gC T = 0
    · have hg := ro0_go h1 rfl
      have hcd := roL_code (gN T) (gR T) 0 [] (by omega)
      rw [← hg] at hcd
      rcases hr : ro0 T with ⟨out, l, c⟩
      rw [hr] at hcd
      by_cases he : rEnd l c = 0
      · by_cases hk : (chkOps out).1 = 0
        · rw [readO_ok h0 hr he hk]; show 0 ≤ 12; omega
        · rw [readO_bad h0 hr he hk]; have := chkOps_code out; show (chkOps out).1 ≤ 12; omega
      · rw [readO_end h0 hr he]; exact rEnd_le l c hcd
    · have := gC_cases T
      rw [ro0_e1 h0 h1]; show gC T ≤ 12; omega
end Go.Proofs.YtkhjhbgoccljfaaDoor
