/- Texts of one proof, one behind the other: DeltaSame, DeltaBack. -/
import Derived.Test.YtdpoalbbcmkceaaGreatDoorB26
import Derived.Test.YtdpoalbbcmkceaaGreatDoorB44
/- DeltaSame: of blocks that are there twice the first one is taken; of a file that goes on only what is new is data. -/
namespace Go.Proofs.YtdpoalbbcmkceaaGreatDoor
open Go.RowKit
set_option linter.unusedVariables false

theorem ops_lit {w : World} {s0 : Option Addr} {n0 c0 : Nat} {l : List POp} (hl : SliceIs w (.slice s0 n0 c0) 4 (ocells l)) (k : Nat) (hk : k < l.length) :
    ∃ a, s0 = some a ∧ w.cell? (a.add (k * 4)) = some (.string (bs l[k].kind)) ∧ w.cell? (a.add (k * 4 + 1)) = some (.int .i64 l[k].a) ∧
      w.cell? (a.add (k * 4 + 2)) = some (.int .i64 l[k].n) ∧ w.cell? (a.add (k * 4 + 3)) = some (.string (bs l[k].data)) := by
  obtain ⟨s0', n0', c0', e1, _, _, _, g1⟩ := hl.get
  cases e1
  obtain ⟨g2, g3, g4, g5⟩ := ocells_get l k hk
  obtain ⟨a, rfl, d0⟩ := g1 _ _ g2
  obtain ⟨a', e', d1⟩ := g1 _ _ g3
  cases e'
  obtain ⟨a', e', d2⟩ := g1 _ _ g4
  cases e'
  obtain ⟨a', e', d3⟩ := g1 _ _ g5
  cases e'
  exact ⟨a, rfl, d0, d1, d2, d3⟩
end Go.Proofs.YtdpoalbbcmkceaaGreatDoor
/- DeltaBack: a delta is read as it was written; of a file with its own signature it has no data. -/
namespace Go.Proofs.YtdpoalbbcmkceaaGreatDoor
open Go.RowKit
set_option linter.unusedVariables false

theorem rdOp_text (o : POp) (more : List UInt8) (h : opC o = 0) : rdOp (oText1 o ++ more) = (o, more, 0) := by
  rcases opC_kind h with hk | hk
  · obtain ⟨a0, a1, a2, a3, a4⟩ := opC_copy h hk
    rw [oText1_copy hk, List.append_assoc, List.append_assoc]
    obtain ⟨p1, p2, p3⟩ := rd_num 0 (num o.a.toNat ++ (num o.n.toNat ++ more)) (by omega)
    obtain ⟨q1, q2, q3⟩ := rd_num o.a.toNat (num o.n.toNat ++ more) (by omega)
    obtain ⟨r1, r2, r3⟩ := rd_num o.n.toNat more (by omega)
    rw [rdOp_copy p3 p1 p2 q2 q3, q1, r1, r2, r3]
    obtain ⟨K, a, n, D⟩ := o
    simp only [] at hk a0 a1 a2 a3 a4
    subst hk a0
    have e1 : ((a.toNat : Nat) : Int) = a := by omega
    have e2 : ((n.toNat : Nat) : Int) = n := by omega
    simp only [e1, e2]
  · obtain ⟨a0, a1, a2, a3⟩ := opC_data h hk
    rw [oText1_data (by rw [hk]; exact kne), List.append_assoc]
    obtain ⟨p1, p2, p3⟩ := rd_num 1 ((num o.data.length ++ o.data) ++ more) (by omega)
    obtain ⟨q1, q2, q3⟩ := t_text o.data more (by omega)
    rw [rdOp_data p3 p1 p2, (rt_zero _).1, (rt_zero _).2.1, (rt_zero _).2.2, q1, q2, q3]
    obtain ⟨K, a, n, D⟩ := o
    simp only [] at hk a0 a1
    subst hk a0 a1
    rfl
theorem roL_text : ∀ (l : List POp) (out : List POp) (more : List UInt8), (∀ o ∈ l, opC o = 0) → roL l.length (opsT l ++ more) 0 out = (out ++ l, more, 0)
  | [], out, more, _ => by rw [opsT_nil]; simp [roL_end]
  | o :: l, out, more, h => by
    rw [opsT_cons, List.append_assoc, roL_step (by simp), rdOp_text o _ (h o (by simp))]
    simp only [List.length_cons, Nat.add_sub_cancel]
    rw [roL_text l _ more (fun x hx => h x (by simp [hx]))]
    simp
theorem readO_text (l : List POp) (h : (chkOps l).1 = 0) (hl : l.length ≤ 1000000) (h2 : ¬ 20000 < (oText l).length) : readO (oText l) = (l, 0) := by
  have h0 : ro0 (oText l) = (l, [], 0) := by
    obtain ⟨p1, p2, p3⟩ := rd_num l.length (opsT l) (by omega)
    rw [oText_is, ro0_is p1 p2 p3]
    have := roL_text l [] [] ((chkOps_ok l).1 h)
    simpa using this
  exact readO_ok h2 h0 rEnd_nil h
theorem cost_own (size : Nat) (L : List UInt8) (hs : 0 < size) : ∀ (f k : Nat) (out : List POp), costN (mkA (blks size L) size f (L.drop (k * size)) out) = costN out
  | 0, k, out => by rw [mkA_zero]
  | f + 1, k, out => by
    by_cases hk : k * size < L.length
    · have hne : L.drop (k * size) ≠ [] := by intro h; have := congrArg List.length h; simp at this; omega
      rw [mkA_copy hne (findI_has _ _ (blks_mem size L k hs hk)), List.drop_drop, show k * size + size = (k + 1) * size by rw [Nat.add_mul]; omega, cost_own size L hs f (k + 1), costN_copy]
    · rw [List.drop_eq_nil_of_le (by omega), mkA_end]
theorem mkOps_own (size : Nat) (L : List UInt8) (hs : 0 < size) : costN (mkOps (blks size L) size L) = 0 := by
  have := cost_own size L hs L.length 0 []
  unfold mkOps
  simpa [costN_nil] using this
theorem oText_short {l : List POp} (h : l.length ≤ 200) (hc : costN l ≤ 200) : ¬ 20000 < (oText l).length ∧ (opsT l).length ≤ 100000000 := by
  have := opsT_len l
  have := num_len l.length
  rw [oText_is]
  simp only [List.length_append]
  omega

end Go.Proofs.YtdpoalbbcmkceaaGreatDoor
