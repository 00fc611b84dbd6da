/- A frame's text with one byte turned is none: its sum differs. -/
import Derived.Test.YtkojhnmchbhbbaaDoorFramePlain
namespace Go.Proofs.YtkojhnmchbhbbaaDoor
open Go.RowKit
set_option linter.unusedVariables false

theorem xor_ne (b x : UInt8) (hx : x.toNat ≠ 0) : b ^^^ x ≠ b := by
  intro h
  have h2 := congrArg (fun z => b ^^^ z) h
  simp only [← UInt8.xor_assoc, UInt8.xor_self, UInt8.zero_xor] at h2
  rw [h2] at hx
  exact hx rfl
theorem flipB (B C : List UInt8) (p : Nat) (x : UInt8) (hC : C = lowL (csum B)) (hp : p < (B ++ C).length) (hx : x.toNat ≠ 0) :
    lowL (csum (((B ++ C).set p ((B ++ C)[p] ^^^ x)).take B.length)) ≠ ((B ++ C).set p ((B ++ C)[p] ^^^ x)).drop B.length := by
  by_cases h : p < B.length
  · rw [List.getElem_append_left h, List.set_append_left _ _ h]
    obtain ⟨h1, h2⟩ := flip_shape B p x h
    have hn := csum_flip_ne (B.take p) (B.drop (p + 1)) B[p] x hx
    rw [← h1, ← h2] at hn
    have hl : (B.set p (B[p] ^^^ x)).length = B.length := by simp
    rw [show (B.set p (B[p] ^^^ x) ++ C).take B.length = B.set p (B[p] ^^^ x) by rw [← hl, List.take_left'] ; rfl]
    rw [show (B.set p (B[p] ^^^ x) ++ C).drop B.length = C by rw [← hl, List.drop_left'] ; rfl]
    rw [hC]
    exact fun e => hn (lowL_inj (csum_lt _) (csum_lt _) e)
  · have hq : p - B.length < C.length := by rw [List.length_append] at hp; omega
    rw [List.getElem_append_right (by omega), List.set_append_right _ _ (by omega)]
    rw [List.take_left', List.drop_left']
    · rw [← hC]
      intro e
      have e2 : C[p - B.length]? = (C.set (p - B.length) (C[p - B.length] ^^^ x))[p - B.length]? := congrArg (fun l => l[p - B.length]?) e
      rw [List.getElem?_set_self hq, List.getElem?_eq_getElem hq] at e2
      exact xor_ne _ x hx (Option.some.inj e2).symm
    · rfl
    · rfl
theorem dec_flip (f : PFr) (p : Nat) (x : UInt8) (hp : p < (frT f).length) (hx : x.toNat ≠ 0) : decF ((frT f).set p ((frT f)[p] ^^^ x)) = (zfr, 10) := by
  have hl : (frT f).length = (frB f).length + 4 := by rw [frT_is, List.length_append, lowL_len]
  refine decF_sum (by rw [List.length_set]; omega) ?_
  rw [List.length_set, show (frT f).length - 4 = (frB f).length by omega]
  have := flipB (frB f) (lowL (csum (frB f))) p x rfl (by rw [← frT_is]; exact hp) hx
  simpa only [← frT_is] using this
theorem frT_len {f : PFr} (h : f.d.length ≤ 200) : (frT f).length ≤ 1000 := by
  have a := num_len f.e.toNat
  have b := num_len f.q.toNat
  have c := num_len f.d.length
  rw [frT_is, frB_is]
  simp only [List.length_append, List.length_cons, lowL_len]; omega
end Go.Proofs.YtkojhnmchbhbbaaDoor
