/- DeltaBack: a delta is read as it was written; of a file with its own signature it has no data. -/
import Derived.Test.YtphigoclkkgpoaaDoorDeltaRead
import Derived.Test.YtphigoclkkgpoaaDoorDeltaText
import Derived.Test.YtphigoclkkgpoaaDoorDeltaSame
namespace Go.Proofs.YtphigoclkkgpoaaDoor
open Go.RowKit
set_option linter.unusedVariables false

theorem rdOp_text (o : POp) (more : List UInt8) (h : opC o = 0) : rdOp (oText1 o ++ more) = (o, more, 0) := by
  rcases opC_kind h with hk | hk
  · obtain ⟨a0, a1, a2, a3, a4⟩ := opC_copy h hk
    rw [oText1_copy hk, List.append_assoc, List.append_assoc]
    obtain ⟨p1, p2, p3⟩ := rd_num 0 (num o.a.toNat ++ (num o.n.toNat ++ more)) (by omega)
    obtain ⟨q1, q2, q3⟩ := rd_num o.a.toNat (num o.n.toNat ++ more) (by omega)
    obtain ⟨r1, r2, r3⟩ := rd_num o.n.toNat more (by omega)
    rw [rdOp_copy p3 p1 p2 q2 q3, q1, r1, r2, r3]
    obtain ⟨K, a, n, D⟩ := o
    simp only [] at hk a0 a1 a2 a3 a4
    subst hk a0
    have e1 : ((a.toNat : Nat) : Int) = a := by omega
    have e2 : ((n.toNat : Nat) : Int) = n := by omega
    simp only [e1, e2]
  · obtain ⟨a0, a1, a2, a3⟩ := opC_data h hk
    rw [oText1_data (by rw [hk]; exact kne), List.append_assoc]
    obtain ⟨p1, p2, p3⟩ := rd_num 1 ((num o.data.length ++ o.data) ++ more) (by omega)
    obtain ⟨q1, q2, q3⟩ := t_text o.data more (by omega)
    rw [rdOp_data p3 p1 p2, (rt_zero _).1, (rt_zero _).2.1, (rt_zero _).2.2, q1, q2, q3]
    obtain ⟨K, a, n, D⟩ := o
    simp only [] at hk a0 a1
    subst hk a0 a1
    rfl
theorem roL_text : ∀ (l : List POp) (out : List POp) (more : List UInt8), (∀ o ∈ l, opC o = 0) → roL l.length (opsT l ++ more) 0 out = (out ++ l, more, 0)
  | [], out, more, _ => by rw [opsT_nil]; simp [roL_end]
  | o :: l, out, more, h => by
    rw [opsT_cons, List.append_assoc, roL_step (by simp), rdOp_text o _ (h o (by simp))]
    simp only [List.length_cons, Nat.add_sub_cancel]
    rw [roL_text l _ more (fun x hx => h x (by simp [hx]))]
    simp
theorem readO_text (l : List POp) (h : (chkOps l).1 = 0) (hl : l.length ≤ 1000000) (h2 : ¬ 20000 < (oText l).length) : readO (oText l) = (l, 0) := by
  have h0 : ro0 (oText l) = (l, [], 0) := by
    obtain ⟨p1, p2, p3⟩ := rd_num l.length (opsT l) (by omega)
    rw [oText_is, ro0_is p1 p2 p3]
    have := roL_text l [] [] ((chkOps_ok l).1 h)
    simpa using this
  exact readO_ok h2 h0 rEnd_nil h
theorem cost_own (size : Nat) (L : List UInt8) (hs : 0 < size) : ∀ (f k : Nat) (out : List POp), costN (mkA (blks size L) size f (L.drop (k * size)) out) = costN out
  | 0, k, out => by rw [mkA_zero]
  | f + 1, k, out => by
    by_cases hk : k * size < L.length
    · have hne : L.drop (k * size) ≠ [] := by intro h; have := congrArg List.length h; simp at this; omega
      rw [mkA_copy hne (findI_has _ _ (blks_mem size L k hs hk)), List.drop_drop, show k * size + size = (k + 1) * size by rw [Nat.add_mul]; omega, cost_own size L hs f (k + 1), costN_copy]
    · rw [List.drop_eq_nil_of_le (by omega), mkA_end]
theorem mkOps_own (size : Nat) (L : List UInt8) (hs : 0 < size) : costN (mkOps (blks size L) size L) = 0 := by
  have := cost_own size L hs L.length 0 []
  unfold mkOps
  simpa [costN_nil] using this
theorem oText_short {l : List POp} (h : l.length ≤ 200) (hc : costN l ≤ 200) : ¬ 20000 < (oText l).length ∧ (opsT l).length ≤ 100000000 := by
  have := opsT_len l
  have := num_len l.length
  rw [oText_is]
  simp only [List.length_append]
  omega

set_option maxRecDepth 100000 in
set_option maxHeartbeats 6400000 in
theorem deltaBack_walk (E : Nat → Addr) (a0 : ByteArray) (a1 : ByteArray) (a2 : Int) (w : World) (_ : a0.size ≤ maxLen) (_ : a1.size ≤ maxLen) (_ : (Lit.int .i64 a2).wf = true) (hE : ∀ c ∈ [1, 2, 3, 4, 8], Has E w c ∧ Sent w (E c)) (_ : ∀ c ∈ [1, 2, 3, 4, 8], ∀ c' ∈ [1, 2, 3, 4, 8], c ≠ c' → E c ≠ E c') :
    Calls Tryd.prog 5 #[.string a0, .string a1, .int .i64 a2] w fun e w' => e = .returned (.bool true) ∧ Below w.heap.size w w' := by
  have h1 : Has E w 1 := (hE 1 (by simp)).1
  have h2 : Has E w 2 := (hE 2 (by simp)).1
  have h3 : Has E w 3 := (hE 3 (by simp)).1
  have h4 : Has E w 4 := (hE 4 (by simp)).1
  have h8 : Has E w 8 := (hE 8 (by simp)).1
  have PT := Lib.hid (made_ok E w h2 h8)
  have H1 := Lib.hid h1
  have H2 := Lib.hid h2
  have H3 := Lib.hid h3
  have H4 := Lib.hid h4
  have H8 := Lib.hid h8
  clear hE h1 h2 h3 h4 h8
  obtain ⟨O, rfl⟩ : ∃ O, a0 = bs O := ⟨a0.data.toList, (bs_of _).symm⟩
  obtain ⟨S, rfl⟩ : ∃ S, a1 = bs S := ⟨a1.data.toList, (bs_of _).symm⟩
  by_cases hsz : O.length ≤ 200 ∧ S.length ≤ 200
  · obtain ⟨hs0, hs1⟩ := hsz
    have hI0 : ¬ (200 : Int) < O.length := by omega
    have hI1 : ¬ (200 : Int) < S.length := by omega
    by_cases hz : 1 ≤ a2 ∧ a2 ≤ 64
    · obtain ⟨z, rfl⟩ : ∃ z : Nat, a2 = z := ⟨a2.toNat, by omega⟩
      have z1 : 1 ≤ z := by omega
      have z2 : z ≤ 64 := by omega
      have zt : ((z : Int)).toNat = z := by omega
      have OF := fun w' => of_yes (bs O) z w' (by rw [bs_size]; omega) z1 z2
      rw [bs_list] at OF
      have hck := blks_chk z O z1 z2 (by omega)
      have hcnt := blks_len z O
      have hcl := cnt_le z O.length (by omega)
      have hok := mkOps_ok (blks z O) z S z1 (by omega)
      have hcost := mkOps_cost (blks z O) z S
      have hown := mkOps_own z O (by omega)
      generalize blks z O = l at OF hck hcnt hok hcost hown
      have MK := fun (w' : World) A cap S' (hS : S'.length ≤ 200) h h8' h2' => make_any E A l.length cap l (z : Int) (bs S') w' h h2' h8' (by rw [hck]) (by rw [bs_size]; omega)
      simp only [bs_list, zt] at MK
      have hchk := (chkOps_ok _).2 (hok.chk (by omega))
      have hol := hok.1
      obtain ⟨ops, hops⟩ : ∃ ops, ops = mkOps l z S := ⟨_, rfl⟩
      obtain ⟨own, howns⟩ : ∃ own, own = mkOps l z O := ⟨_, rfl⟩
      have MKS := fun (w' : World) A cap => MK w' A cap S hs1
      have MKO := fun (w' : World) A cap => MK w' A cap O hs0
      rw [← hops] at MKS hchk hol hcost
      rw [← howns] at MKO hown
      obtain ⟨t1, t2⟩ := oText_short (l := ops) (by omega) (by omega)
      have hdt := dt_fine hchk t1
      have hrd := readO_text ops hchk (by omega) t1
      have hcp := chkOps_pair ops hchk
      have htl : (oText ops).length ≤ 20000 := by omega
      have hl1 : ops.length ≤ 200 := by omega
      have hc1 : costN ops ≤ 200 := by omega
      have hcI : ¬ (S.length : Int) < costN ops := by omega
      have HOF := Lib.hid OF
      have HMKS := Lib.hid MKS
      have HMKO := Lib.hid MKO
      have HDT := Lib.hid hdt
      have HRD := Lib.hid hrd
      have HCP := Lib.hid hcp
      have HOWN := Lib.hid hown
      have HT2 := Lib.hid t2
      have HEZ := Lib.hid (ev_zero E)
      clear OF hck hcnt hok hcost hown MK MKS MKO hops howns hdt hrd hcp hchk t1 t2 zt
      go_enter Tryd.func5, Tryd.ntmps5
      go_wp2_with (go_at_call 26; refine PT.out.mono ?_; rintro e w0 ⟨rfl, b0⟩)
      refine (HOF.out w0).mono ?_
      rintro e w1 ⟨v, rfl, hown, b1⟩
      have b01 := below_trans' b0 b1
      clear b0 b1
      obtain ⟨A, cap, hv⟩ := owns_slice hown
      rw [hv] at hown ⊢
      have HSL := Lib.hid (SliceIs.ownedK hown)
      clear hown hv
      go_wp2_with fail
      refine (HMKS.out w1 _ _ HSL.out (H8.out.below b01) (H2.out.below b01)).mono ?_
      rintro e w2 ⟨v2, rfl, hown2, b2⟩
      have HSL2 := Lib.hid (HSL.out.below b2)
      have b02 := below_trans' b01 b2
      obtain ⟨A2, cap2, hv2⟩ := owns_slice hown2
      rw [hv2] at hown2 ⊢
      have HSP := Lib.hid (SliceIs.ownedK hown2)
      clear hown2 hv2 b2 b01 HSL HOF HMKS
      go_wp2_with fail
      refine (dcheck_any E _ _ _ ops w2 HSP.out (H2.out.below b02) (H3.out.below b02) (H4.out.below b02)).mono ?_
      rintro e w3 ⟨v3, rfl, fe, b3⟩
      rw [HCP.out] at fe
      rw [fe.zero]
      have b03 := below_trans' b02 b3
      have HSL3 := Lib.hid (HSL2.out.below b3)
      have HSP3 := Lib.hid (HSP.out.below b3)
      clear fe b02 b3 HSL2 HSP
      go_wp2_with fail
      refine (cost_any _ _ _ ops w3 HSP3.out (by omega)).mono ?_
      rintro e w4 ⟨rfl, b4⟩
      have b04 := below_trans' b03 b4
      have HSL4 := Lib.hid (HSL3.out.below b4)
      have HSP4 := Lib.hid (HSP3.out.below b4)
      clear b03 b4 HSL3 HSP3
      go_wp2_with fail
      have DT := dtext_any E _ _ _ ops w4 HSP4.out (H2.out.below b04) (H3.out.below b04) (H4.out.below b04) (by omega) HT2.out
      rw [HDT.out.1, HDT.out.2] at DT
      refine DT.mono ?_
      rintro e w5 ⟨v5, rfl, fe5, b5⟩
      rw [fe5.zero]
      have b05 := below_trans' b04 b5
      have HSL5 := Lib.hid (HSL4.out.below b5)
      have HSP5 := Lib.hid (HSP4.out.below b5)
      clear fe5 b04 b5 HSL4 HSP4 DT
      go_wp2_with fail
      have RD := dread_any E (bs (oText ops)) w5 (by rw [bs_size]; omega) (H1.out.below b05) (H2.out.below b05) (H3.out.below b05) (H4.out.below b05)
      rw [bs_list, HRD.out] at RD
      simp only [HEZ.out] at RD
      refine RD.mono ?_
      rintro e w6 ⟨v6, rfl, hown6, b6⟩
      have b06 := below_trans' b05 b6
      have HSL6 := Lib.hid (HSL5.out.below b6)
      have HSP6 := Lib.hid (HSP5.out.below b6)
      obtain ⟨A6, cap6, hv6⟩ := owns_slice hown6
      rw [hv6] at hown6 ⊢
      have HRO := Lib.hid (SliceIs.ownedK hown6)
      clear hown6 hv6 b05 b6 HSL5 HSP5 RD
      have SO := sameOps_any A6 ops.length cap6 A2 ops.length cap2 ops ops w6 HRO.out HSP6.out
      rw [sameO_yes rfl] at SO
      have HSO := Lib.hid SO
      clear SO
      go_wp2_with fail
      refine HSO.out.mono ?_
      rintro e w7 ⟨rfl, d7⟩
      have b7 := d7.below w6.heap.size
      have b07 := below_trans' b06 b7
      have HSL7 := Lib.hid (HSL6.out.below b7)
      clear b06 b7 d7 HSL6 HSP6 HRO HSO
      go_wp2_with fail
      refine (HMKO.out w7 _ _ HSL7.out (H8.out.below b07) (H2.out.below b07)).mono ?_
      rintro e w8 ⟨v8, rfl, hown8, b8⟩
      have b08 := below_trans' b07 b8
      obtain ⟨A8, cap8, hv8⟩ := owns_slice hown8
      rw [hv8] at hown8 ⊢
      have HSP8 := Lib.hid (SliceIs.ownedK hown8)
      clear hown8 hv8 b07 b8
      have CO := cost_any _ _ _ own w8 HSP8.out (by rw [HOWN.out]; omega)
      rw [HOWN.out] at CO
      have HCO := Lib.hid CO
      clear CO
      go_wp2_with (go_at_call 15; refine HCO.out.mono ?_; rintro e w9 ⟨rfl, b9⟩)
      go_ret
      exact ⟨rfl, below_trans' b08 b9⟩
    · have HZ := Lib.hid hz
      clear hz
      go_enter Tryd.func5, Tryd.ntmps5
      go_wp2_with (go_at_call 26; refine PT.out.mono ?_; rintro e w0 ⟨rfl, b0⟩)
      have ON := of_no E (bs O) a2 w0 (fun h => HZ.out h.2) (H2.out.below b0)
      rw [ev_pos E (by decide)] at ON
      refine ON.mono ?_
      rintro e w1 ⟨rfl, b1⟩
      clear ON
      go_wp2_with fail
      go_ret
      exact ⟨rfl, below_trans' b0 (b1.below _)⟩
  · have hs3 : (200 : Int) < O.length ∨ ¬ (200 : Int) < O.length ∧ (200 : Int) < S.length := by omega
    rcases hs3 with h | ⟨h, h'⟩
    all_goals
      go_enter Tryd.func5, Tryd.ntmps5
      go_wp2_with (go_at_call 26; refine PT.out.mono ?_; rintro e w0 ⟨rfl, b0⟩)
      go_ret
      exact ⟨rfl, b0⟩
end Go.Proofs.YtphigoclkkgpoaaDoor
