/- Texts of one proof, one behind the other: DeltaSame, DeltaBack, FrameFlip, SameTexts. -/
import Derived.Test.YtppkeophochgiaaGreatDoorB22
import Derived.Test.YtppkeophochgiaaGreatDoorB21
import Derived.Test.YtppkeophochgiaaGreatDoorB13
import Derived.Test.YtppkeophochgiaaGreatDoorB04
import Derived.Test.YtppkeophochgiaaGreatDoorB01
/- DeltaSame: of blocks that are there twice the first one is taken; of a file that goes on only what is new is data. -/
namespace Go.Proofs.YtppkeophochgiaaGreatDoor
open Go.RowKit
set_option linter.unusedVariables false

end Go.Proofs.YtppkeophochgiaaGreatDoor
/- DeltaBack: a delta is read as it was written; of a file with its own signature it has no data. -/
namespace Go.Proofs.YtppkeophochgiaaGreatDoor
open Go.RowKit
set_option linter.unusedVariables false

theorem rdOp_text (o : POp) (more : List UInt8) (h : opC o = 0) : rdOp (oText1 o ++ more) = (o, more, 0) := by
  rcases opC_kind h with hk | hk
  · obtain ⟨a0, a1, a2, a3, a4⟩ := opC_copy h hk
    rw [oText1_copy hk, List.append_assoc, List.append_assoc]
    obtain ⟨p1, p2, p3⟩ := rd_num 0 (num o.a.toNat ++ (num o.n.toNat ++ more)) (by omega)
    obtain ⟨q1, q2, q3⟩ := rd_num o.a.toNat (num o.n.toNat ++ more) (by omega)
    obtain ⟨r1, r2, r3⟩ := rd_num o.n.toNat more (by omega)
    rw [rdOp_copy p3 p1 p2 q2 q3, q1, r1, r2, r3]
    obtain ⟨K, a, n, D⟩ := o
    simp only [] at hk a0 a1 a2 a3 a4
    subst hk a0
    have e1 : ((a.toNat : Nat) : Int) = a := by omega
    have e2 : ((n.toNat : Nat) : Int) = n := by omega
    simp only [e1, e2]
  · obtain ⟨a0, a1, a2, a3⟩ := opC_data h hk
    rw [oText1_data (by rw [hk]; exact kne), List.append_assoc]
    obtain ⟨p1, p2, p3⟩ := rd_num 1 ((num o.data.length ++ o.data) ++ more) (by omega)
    obtain ⟨q1, q2, q3⟩ := t_text o.data more (by omega)
    rw [rdOp_data p3 p1 p2, (rt_zero _).1, (rt_zero _).2.1, (rt_zero _).2.2, q1, q2, q3]
    obtain ⟨K, a, n, D⟩ := o
    simp only [] at hk a0 a1
    subst hk a0 a1
    rfl
theorem roL_text : ∀ (l : List POp) (out : List POp) (more : List UInt8), (∀ o ∈ l, opC o = 0) → roL l.length (opsT l ++ more) 0 out = (out ++ l, more, 0)
  | [], out, more, _ => by rw [opsT_nil]; simp [roL_end]
  | o :: l, out, more, h => by
    rw [opsT_cons, List.append_assoc, roL_step (by simp), rdOp_text o _ (h o (by simp))]
    simp only [List.length_cons, Nat.add_sub_cancel]
    rw [roL_text l _ more (fun x hx => h x (by simp [hx]))]
    simp
theorem readO_text (l : List POp) (h : (chkOps l).1 = 0) (hl : l.length ≤ 1000000) (h2 : ¬ 20000 < (oText l).length) : readO (oText l) = (l, 0) := by
  have h0 : ro0 (oText l) = (l, [], 0) := by
    obtain ⟨p1, p2, p3⟩ := rd_num l.length (opsT l) (by omega)
    rw [oText_is, ro0_is p1 p2 p3]
    have := roL_text l [] [] ((chkOps_ok l).1 h)
    simpa using this
  exact readO_ok h2 h0 rEnd_nil h
theorem oText_short {l : List POp} (h : l.length ≤ 200) (hc : costN l ≤ 200) : ¬ 20000 < (oText l).length ∧ (opsT l).length ≤ 100000000 := by
  have := opsT_len l
  have := num_len l.length
  rw [oText_is]
  simp only [List.length_append]
  omega

end Go.Proofs.YtppkeophochgiaaGreatDoor
/- A frame's text with one byte turned is none: its sum differs. -/
namespace Go.Proofs.YtppkeophochgiaaGreatDoor
open Go.RowKit
set_option linter.unusedVariables false

theorem xor_ne (b x : UInt8) (hx : x.toNat ≠ 0) : b ^^^ x ≠ b := by
  intro h
  have h2 := congrArg (fun z => b ^^^ z) h
  simp only [← UInt8.xor_assoc, UInt8.xor_self, UInt8.zero_xor] at h2
  rw [h2] at hx
  exact hx rfl
theorem flipB (B C : List UInt8) (p : Nat) (x : UInt8) (hC : C = lowL (csum B)) (hp : p < (B ++ C).length) (hx : x.toNat ≠ 0) :
    lowL (csum (((B ++ C).set p ((B ++ C)[p] ^^^ x)).take B.length)) ≠ ((B ++ C).set p ((B ++ C)[p] ^^^ x)).drop B.length := by
  by_cases h : p < B.length
  · rw [List.getElem_append_left h, List.set_append_left _ _ h]
    obtain ⟨h1, h2⟩ := flip_shape B p x h
    have hn := csum_flip_ne (B.take p) (B.drop (p + 1)) B[p] x hx
    rw [← h1, ← h2] at hn
    have hl : (B.set p (B[p] ^^^ x)).length = B.length := by simp
    rw [show (B.set p (B[p] ^^^ x) ++ C).take B.length = B.set p (B[p] ^^^ x) by rw [← hl, List.take_left'] ; rfl]
    rw [show (B.set p (B[p] ^^^ x) ++ C).drop B.length = C by rw [← hl, List.drop_left'] ; rfl]
    rw [hC]
    exact fun e => hn (lowL_inj (csum_lt _) (csum_lt _) e)
  · have hq : p - B.length < C.length := by rw [List.length_append] at hp; omega
    rw [List.getElem_append_right (by omega), List.set_append_right _ _ (by omega)]
    rw [List.take_left', List.drop_left']
    · rw [← hC]
      intro e
      have e2 : C[p - B.length]? = (C.set (p - B.length) (C[p - B.length] ^^^ x))[p - B.length]? := congrArg (fun l => l[p - B.length]?) e
      rw [List.getElem?_set_self hq, List.getElem?_eq_getElem hq] at e2
      exact xor_ne _ x hx (Option.some.inj e2).symm
    · rfl
    · rfl
theorem dec_flip (f : PFr) (p : Nat) (x : UInt8) (hp : p < (frT f).length) (hx : x.toNat ≠ 0) : decF ((frT f).set p ((frT f)[p] ^^^ x)) = (zfr, 10) := by
  have hl : (frT f).length = (frB f).length + 4 := by rw [frT_is, List.length_append, lowL_len]
  refine decF_sum (by rw [List.length_set]; omega) ?_
  rw [List.length_set, show (frT f).length - 4 = (frB f).length by omega]
  have := flipB (frB f) (lowL (csum (frB f))) p x rfl (by rw [← frT_is]; exact hp) hx
  simpa only [← frT_is] using this
end Go.Proofs.YtppkeophochgiaaGreatDoor
/- The document's SameTexts, over whatever two slices of texts. -/

namespace Go.Proofs.YtppkeophochgiaaGreatDoor
open Go.RowKit
set_option maxRecDepth 100000 in
set_option maxHeartbeats 1600000 in
theorem sameTexts_is (v1 v2 : Value) (l1 l2 : List (List UInt8)) (w : World) (h1 : SliceIs w v1 1 (l1.map fun x => Value.string (bs x))) (h2 : SliceIs w v2 1 (l2.map fun x => Value.string (bs x))) :
    Calls Tryz.prog 12 #[v1, v2] w fun e w' => e = .returned (.bool (l1 == l2)) ∧ Drew w w' := by
  obtain ⟨s1, n1, c1, rfl, e1, m1, k1, g1⟩ := h1.get
  obtain ⟨s2, n2, c2, rfl, e2, m2, k2, g2⟩ := h2.get
  clear h1 h2
  simp at e1 e2
  have G1 := Lib.hid g1
  have G2 := Lib.hid g2
  clear g1 g2
  have k1' := k1
  unfold maxLen at k1'
  by_cases hlen : n1 = n2
  · subst hlen
    go_enter Tryz.func12, Tryz.ntmps12
    go_wp2_with fail
    go_loopw [5] (fun i wr => ∃ k : Nat, i = .int .i64 k ∧ k ≤ n1 ∧ l1.take k = l2.take k ∧ Drew w wr) (fun i _ => n1 - (intOf i).toNat)
    case atStart => exact ⟨0, rfl, by omega, by simp, Drew.refl _⟩
    case round =>
      obtain ⟨k, rfl, hk, ht, m, rfl⟩ := hrel
      have HT := Lib.hid ht
      clear ht
      by_cases hlt : k < n1
      · have hltI : (k : Int) < n1 := by omega
        obtain ⟨a, rfl, ha⟩ := G1.out k (.string (bs l1[k])) (by simp; exact ⟨_, List.getElem?_eq_getElem (by omega), rfl⟩)
        obtain ⟨b, rfl, hb⟩ := G2.out k (.string (bs l2[k])) (by simp; exact ⟨_, List.getElem?_eq_getElem (by omega), rfl⟩)
        have x1 : (0 : Int) ≤ k := by omega
        have x2 : (k : Int).toNat = k := by omega
        have HEQ := Lib.hid (show l1[k] = l2[k] → l1.take (k + 1) = l2.take (k + 1) from fun h => by rw [List.take_succ_eq_append_getElem (by omega), List.take_succ_eq_append_getElem (by omega), HT.out, h])
        have HNE := Lib.hid (show l1[k] ≠ l2[k] → (l1 == l2) = false from fun h => by rw [beq_eq_false_iff_ne]; rintro rfl; exact h rfl)
        generalize l1[k] = x at ha HEQ HNE
        generalize l2[k] = y at hb HEQ HNE
        have KK := Lib.hid (show k + 1 ≤ n1 by omega)
        by_cases hxy : x = y
        · subst hxy
          go_wp2_with fail
          go_quiet (fail)
          go_wp2_with fail
          go_roundw
          case rel => exact ⟨k + 1, by go_num, KK.out, by first | exact HEQ.out rfl | exact HEQ.out trivial, by first | exact Drew.drewN _ _ | exact (Drew.drewN _ _).trans (Drew.drewN _ _)⟩
          case measure => simp [intOf]; omega
        · have hb1 : ((bs x).toList == (bs y).toList) = false := by rw [ByteArray.toList_eq, ByteArray.toList_eq]; simpa using hxy
          go_wp2_with fail
          go_quiet (fail)
          go_wp2_with fail
          go_ret
          exact ⟨by rw [HNE.out hxy]; rfl, by first | exact Drew.drewN _ _ | exact (Drew.drewN _ _).trans (Drew.drewN _ _)⟩
      · have hltI : ¬ (k : Int) < n1 := by omega
        have hll : l1 = l2 := by
          have := HT.out
          rwa [List.take_of_length_le (by omega), List.take_of_length_le (by omega)] at this
        go_wp2_with fail
        go_ret
        have hb2 : (l1 == l2) = true := by rw [hll]; simp
        exact ⟨by first | rfl | (rw [hb2]; rfl), Drew.drewN _ _⟩
  · have hb1 : ((n1 : Int) == (n2 : Int)) = false := by simp; omega
    have hI : ¬ (n1 : Int) = n2 := by omega
    have hne : (l1 == l2) = false := by rw [beq_eq_false_iff_ne]; rintro rfl; omega
    go_enter Tryz.func12, Tryz.ntmps12
    go_wp2_with fail
    go_ret
    exact ⟨by rw [hne]; rfl, Drew.refl _⟩
end Go.Proofs.YtppkeophochgiaaGreatDoor
