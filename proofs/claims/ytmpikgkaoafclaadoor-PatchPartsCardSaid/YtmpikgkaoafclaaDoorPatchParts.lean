/- PatchParts: ops in two parts put together what they do at once; data costs what it is. -/
import Derived.Test.YtmpikgkaoafclaaDoorPatchLaws
import Derived.Test.YtmpikgkaoafclaaDoorLaid
import Derived.Deep.RegionHeld3
namespace Go.Proofs.YtmpikgkaoafclaaDoor
open Go.RowKit
set_option linter.unusedVariables false

theorem patched_data : appl [97, 98, 99, 100, 101, 102, 103] 3 [⟨kCopy, 1, 2, []⟩, ⟨kData, 0, 0, [120]⟩] = ((0, -1), [100, 101, 102, 103, 120]) := by decide +kernel
theorem lit_slice {w : World} {b n : Nat} {cs : Array Value} {t : TypeId} {vals : List Value} (k : Nat) (h : w.heap[b]? = some (.cells cs t (0, 0))) (hc : cs.toList = vals) (hn : vals.length = n * k) (hm : n ≤ 1000000) : SliceIs w (.slice (some ⟨b, 0, none⟩) n n) k vals := by
  refine .inr ⟨⟨b, 0, none⟩, n, n, rfl, Nat.le_refl _, by unfold maxLen; omega, hn, fun i u hu => ?_⟩
  subst hc
  have : w.cell? ⟨b, i, none⟩ = some u := by simp only [World.cell?, h]; simpa using hu
  have e : (⟨b, 0, none⟩ : Addr).add i = ⟨b, i, none⟩ := by simp [Addr.add]; omega
  rw [e]; exact this
set_option maxRecDepth 100000 in
set_option maxHeartbeats 1600000 in
theorem patched_ok (E : Nat → Addr) (w : World) (h2 : Has E w 2) (h3 : Has E w 3) (h4 : Has E w 4) (h6 : Has E w 6) (h8 : Has E w 8) : Calls Tryd.prog 24 #[] w fun e w' => e = .returned (.bool true) ∧ Below w.heap.size w w' := by
  have AP := fun (w' : World) s0 n0 c0 hb hl => apply_any E [97, 98, 99, 100, 101, 102, 103] 3 s0 n0 c0 [⟨kCopy, 1, 2, []⟩, ⟨kData, 0, 0, [120]⟩] w' hl (h2.below hb) (h3.below hb) (h4.below hb) (h6.below hb) (h8.below hb)
  rw [patched_data] at AP
  have b7 : bs [97, 98, 99, 100, 101, 102, 103] = ⟨#[97, 98, 99, 100, 101, 102, 103]⟩ := by unfold bs; rfl
  have b5 : bs [100, 101, 102, 103, 120] = ⟨#[100, 101, 102, 103, 120]⟩ := by unfold bs; rfl
  simp only [] at AP
  rw [b7, b5] at AP
  have HAP := Lib.hid AP
  clear AP b7 b5 h2 h3 h4 h6 h8
  go_enter Tryd.func24, Tryd.ntmps24
  go_wp2_with fail
  refine (HAP.out _ _ _ _ ?hb ?hl).mono ?_
  case hb => exact (Below.refl _ w).alloc (Nat.le_refl _) _
  case hl => exact lit_slice 4 (heap_alloc_new _ _) (by simp only [ocells_cons, ocells_nil, POp.vals, bs_kCopy, bs_kData]; rw [bs_nil]; unfold bs; rfl) (by rw [ocells_len]; rfl) (by decide)
  rintro e w1 ⟨v, rfl, fe, b1⟩
  rw [fe.zero]
  clear fe HAP
  go_wp2_with fail
  go_ret
  exact ⟨rfl, below_trans' (below_alloc' _ _) b1⟩

/-- a slice cut in two -/
theorem ops_cut {w : World} {s : Option Addr} {n c : Nat} {l : List POp} (h : SliceIs w (.slice s n c) 4 (ocells l)) (k : Nat) (hk : k ≤ n) :
    ∃ sE nE cE sH nH cH, (∀ w' : World, (Instr.slice 41 (.slice s n c) none (some (.int .i64 k)) none).run Tryd.prog w' = .ok (.slice sE nE cE) w') ∧
      (∀ w' : World, (Instr.slice 41 (.slice s n c) (some (.int .i64 k)) none none).run Tryd.prog w' = .ok (.slice sH nH cH) w') ∧
      SliceIs w (.slice sE nE cE) 4 (ocells (l.take k)) ∧ SliceIs w (.slice sH nH cH) 4 (ocells (l.drop k)) ∧ (l.take k).length = nE ∧ (l.drop k).length = nH := by
  obtain ⟨hn, hc0, hc1⟩ := ops_len h
  have hu : Tryd.prog.underlying 41 = some (.slice (Tryd.prog.elem 41)) := by kernel_rfl
  have hz : ∀ w' : World, (sizeOf (Tryd.prog.elem 41)).run Tryd.prog w' = .ok 4 w' := fun w' => by kernel_rfl
  have r1 : ∀ w' : World, (Instr.slice 41 (.slice s n c) none (some (.int .i64 k)) none).run Tryd.prog w' = .ok (.slice s k c) w' := by
    intro w'
    rw [run_slice_h w' 41 s n c hu .i64 k (by omega) (by omega), hz]
    simp only [Result.andThen, sliced]
    rw [show ((k : Int)).toNat = k by omega]
    cases s <;> simp [Addr.add]
  have r2 : ∀ w' : World, (Instr.slice 41 (.slice s n c) (some (.int .i64 k)) none none).run Tryd.prog w' = .ok (.slice (if c = k then s else s.map (·.add (k * 4))) (n - k) (c - k)) w' := by
    intro w'
    rw [run_slice_l w' 41 s n c hu .i64 k (by omega) (by omega), hz]
    simp only [Result.andThen, sliced]
    rw [show ((k : Int)).toNat = k by omega]
  refine ⟨s, k, c, _, n - k, c - k, r1, r2, h.cutEnd k hk, ?_, by simp; omega, by simp; omega⟩
  rcases s with _ | a
  · rcases h with ⟨h1, h2⟩ | ⟨a, len, cap, h1, _⟩
    · injection h1 with _ e2 e3
      subst e2 e3
      have e : l = [] := List.eq_nil_of_length_eq_zero hn
      subst e
      obtain rfl : k = 0 := by omega
      exact .inl ⟨by simp, by simp [ocells_nil]⟩
    · cases h1
  · by_cases e : c = k
    · rw [if_pos e]
      have e1 : n = k := by omega
      subst e1
      have := SliceIs.cutAll h e
      rw [show n - n = 0 by omega, show c - n = 0 by omega]
      exact this
    · rw [if_neg e]
      exact h.cutHead k hk

theorem costN_long {l : List POp} (h : ∀ o ∈ l, o.data.length ≤ 4001) : costN l ≤ l.length * 4001 := by
  induction l with
  | nil => rw [costN_nil]; omega
  | cons o l ih =>
    rw [costN_cons]
    have := ih (fun x hx => h x (by simp [hx]))
    have := h o (by simp)
    simp only [List.length_cons, Nat.add_mul]; omega

set_option maxRecDepth 100000 in
set_option maxHeartbeats 6400000 in
theorem patchParts_walk (E : Nat → Addr) (a0 : ByteArray) (a1 : Int) (s2 : Option Addr) (n2 c2 : Nat) (a2 : List POp) (a3 : Int) (w : World) (_ : a0.size ≤ maxLen) (_ : (Lit.int .i64 a1).wf = true) (hs : SliceIs w (.slice s2 n2 c2) POp.cells (a2.flatMap POp.vals) ∧ ∀ x ∈ a2, x.ok) (_ : (Lit.int .i64 a3).wf = true) (hE : ∀ c ∈ [2, 3, 4, 6, 8], Has E w c ∧ Sent w (E c)) (_ : ∀ c ∈ [2, 3, 4, 6, 8], ∀ c' ∈ [2, 3, 4, 6, 8], c ≠ c' → E c ≠ E c') :
    Calls Tryd.prog 6 #[.string a0, .int .i64 a1, .slice s2 n2 c2, .int .i64 a3] w fun e w' => e = .returned (.bool true) ∧ Below w.heap.size w w' := by
  obtain ⟨hs, _⟩ := hs
  rw [ocells_is] at hs
  have hs : SliceIs w (.slice s2 n2 c2) 4 (ocells a2) := hs
  obtain ⟨rfl, hc0, hc1⟩ := ops_len hs
  have H2 := Lib.hid (hE 2 (by simp)).1
  have H3 := Lib.hid (hE 3 (by simp)).1
  have H4 := Lib.hid (hE 4 (by simp)).1
  have H6 := Lib.hid (hE 6 (by simp)).1
  have H8 := Lib.hid (hE 8 (by simp)).1
  have PO := Lib.hid (patched_ok E w H2.out H3.out H4.out H6.out H8.out)
  have LO := Lib.hid (fun (w' : World) (b : Below w.heap.size w w') => longOps_any s2 a2.length c2 a2 w' (hs.below b))
  clear hE
  by_cases h0 : a0.size ≤ 200
  · have h0I : ¬ (200 : Int) < a0.size := by omega
    by_cases hl : longB a2 = false
    · rw [hl] at LO
      by_cases hk : 0 ≤ a3 ∧ a3 ≤ a2.length
      · obtain ⟨k, rfl⟩ : ∃ k : Nat, a3 = k := ⟨a3.toNat, by omega⟩
        have hk : k ≤ a2.length := by omega
        have hkI : ¬ (a2.length : Int) < k := by omega
        have hkJ : ¬ (k : Int) < 0 := by omega
        have OO := Lib.hid (fun (w' : World) s0 n0 c0 (l : List POp) (hl : l.length ≤ 40) h => ownOps_any s0 n0 c0 l w' h (by omega))
        have AP := Lib.hid (fun (w' : World) s0 n0 c0 (l : List POp) (hb : Below w.heap.size w w') h => by have := apply_any E a0.data.toList a1 s0 n0 c0 l w' h (H2.out.below hb) (H3.out.below hb) (H4.out.below hb) (H6.out.below hb) (H8.out.below hb); rw [bs_of] at this; exact this)
        obtain ⟨l40, ldat⟩ := longB_no hl
        have HS := Lib.hid hs
        have hlen2 : (a2.take k).length ≤ 40 ∧ (a2.drop k).length ≤ 40 := by simp; omega
        have CC := Lib.hid (fun (w' : World) s0 n0 c0 (l : List POp) (hl : l.length ≤ 40 ∧ ∀ o ∈ l, o ∈ a2) h => cost_any s0 n0 c0 l w' h (by have := costN_long (l := l) (fun o ho => by have := (ldat o (hl.2 o ho)).1; omega); omega))
        clear hl ldat
        by_cases herr : (appl a0.data.toList a1 a2).1.1 = 0
        · obtain ⟨p1, p2, p3, p4⟩ := appl_parts (l := a2) k herr
          have P1 := Lib.hid p1
          have P2 := Lib.hid p2
          have P3 := Lib.hid p3
          have HER := Lib.hid herr
          have hcat := congrArg List.length p3
          have hlc : (appl a0.data.toList a1 a2).2.length ≤ 4000 := by
            obtain ⟨_, _, q1, _, q2⟩ := appl_zero herr
            rw [q1]; exact q2
          have hcost : (costN (a2.take k) : Int) + (costN (a2.drop k) : Int) = costN a2 := by
            have := costN_append (a2.take k) (a2.drop k)
            rw [List.take_append_drop] at this
            omega
          clear herr p1 p2 p3
          rw [List.length_append] at hcat
          have SEQ : Hid (((bs (catP a0.data.toList a1.toNat (a2.take k)) ++ bs (catP a0.data.toList a1.toNat (a2.drop k))).toList == (bs (appl a0.data.toList a1 a2).2).toList) = true) := by
            show _ = _
            rw [P3.out, bsapp]; simp
          have hlc2 : (catP a0.data.toList a1.toNat (a2.take k)).length + (catP a0.data.toList a1.toNat (a2.drop k)).length ≤ 4000 := by omega
          clear hcat
          have T1 : ∀ o ∈ a2.take k, o ∈ a2 := fun o ho => List.mem_of_mem_take ho
          have T2 : ∀ o ∈ a2.drop k, o ∈ a2 := fun o ho => List.mem_of_mem_drop ho
          have HT1 := Lib.hid T1
          have HT2 := Lib.hid T2
          clear T1 T2
          generalize hx : catP a0.data.toList a1.toNat (a2.take k) = X1 at *
          generalize hy : catP a0.data.toList a1.toNat (a2.drop k) = X2 at *
          have P3' := P3.out
          generalize ha : (appl a0.data.toList a1 a2).2 = XA at *
          have AP1 := Lib.hid (fun (w' : World) s0 n0 c0 (hb : Below w.heap.size w w') h => AP.out w' s0 n0 c0 a2 hb h)
          rw [ha] at AP1
          have AP2 := Lib.hid (fun (w' : World) s0 n0 c0 (hb : Below w.heap.size w w') h => AP.out w' s0 n0 c0 (a2.take k) hb h)
          rw [P1.out] at AP2
          have AP3 := Lib.hid (fun (w' : World) s0 n0 c0 (hb : Below w.heap.size w w') h => AP.out w' s0 n0 c0 (a2.drop k) hb h)
          rw [P2.out] at AP3
          rw [HER.out] at AP1
          have CC1 := Lib.hid (fun (w' : World) s0 n0 c0 h => CC.out w' s0 n0 c0 (a2.take k) ⟨hlen2.1, fun o ho => List.mem_of_mem_take ho⟩ h)
          have CC2 := Lib.hid (fun (w' : World) s0 n0 c0 h => CC.out w' s0 n0 c0 (a2.drop k) ⟨hlen2.2, fun o ho => List.mem_of_mem_drop ho⟩ h)
          have CC3 := Lib.hid (fun (w' : World) s0 n0 c0 h => CC.out w' s0 n0 c0 a2 ⟨l40, fun o ho => ho⟩ h)
          generalize costN (a2.take k) = cA at CC1 hcost
          generalize costN (a2.drop k) = cB at CC2 hcost
          generalize costN a2 = cT at CC3 hcost p4
          have hwr : Hid (IntKind.i64.wrap ((cA : Int) + (cB : Int)) = (cT : Int)) := by
            show _ = _
            rw [← hcost]; exact IntWalk.i64_in _ (by omega)
          have HP4 : Hid ((cT : Int) ≤ XA.length) := by show _ ≤ _; omega
          have hcat : Hid (¬ 9223372036854775807 < X1.length + X2.length) := by show ¬ _; omega
          clear CC
          have HL2 := Lib.hid hlen2
          clear hx hy ha P1 P2 P3 P3' AP HER hcost p4 hlen2 HT1 HT2
          obtain ⟨sE, nE, cE, sH, nH, cH, rE, rH, g1, g2, g3, g4⟩ := ops_cut hs k hk
          have H1 := Lib.hid g1
          have H2' := Lib.hid g2
          have LT1 := Lib.hid g3
          have LT2 := Lib.hid g4
          clear g1 g2 g3 g4 hc1
          clear hs
          go_enter Tryd.func6, Tryd.ntmps6
          go_wp2_with fail
          refine PO.out.mono ?_
          rintro e w1 ⟨rfl, b1⟩
          go_wp2_with (go_at_call 25; refine (LO.out _ b1).mono ?_; rintro e w2 ⟨rfl, rfl⟩)
          refine (OO.out _ _ _ _ a2 l40 (HS.out.below b1)).mono ?_
          rintro e w2 ⟨v, rfl, hown, b2⟩
          have b12 := below_trans' b1 b2
          obtain ⟨A, cap, hv⟩ := owns_slice hown
          rw [hv] at hown ⊢
          have SL := Lib.hid (SliceIs.ownedK hown)
          clear hown hv b1 b2
          go_wp2_with fail
          refine (AP1.out _ _ _ _ b12 SL.out).mono ?_
          rintro e w3 ⟨v3, rfl, fe, b3⟩
          have b13 := below_trans' b12 b3
          rw [fe.zero]
          clear fe b12 b3 SL
          go_wp2_with fail
          refine (OO.out _ _ _ _ (a2.take k) HL2.out.1 (H1.out.below b13)).mono ?_
          rintro e w4 ⟨v, rfl, hown, b4⟩
          rw [LT1.out] at hown
          have b14 := below_trans' b13 b4
          obtain ⟨A4, cap4, hv⟩ := owns_slice hown
          rw [hv] at hown ⊢
          have SL := Lib.hid (SliceIs.ownedK hown)
          clear hown hv b13 b4
          go_wp2_with fail
          refine (AP2.out _ _ _ _ b14 SL.out).mono ?_
          rintro e w5 ⟨v5, rfl, fe, b5⟩
          have b15 := below_trans' b14 b5
          rw [fe.zero]
          clear fe b14 b5 SL
          go_wp2_with fail
          refine (OO.out _ _ _ _ (a2.drop k) HL2.out.2 (H2'.out.below b15)).mono ?_
          rintro e w6 ⟨v, rfl, hown, b6⟩
          rw [LT2.out] at hown
          have b16 := below_trans' b15 b6
          obtain ⟨A6, cap6, hv⟩ := owns_slice hown
          rw [hv] at hown ⊢
          have SL := Lib.hid (SliceIs.ownedK hown)
          clear hown hv b15 b6
          go_wp2_with fail
          refine (AP3.out _ _ _ _ b16 SL.out).mono ?_
          rintro e w7 ⟨v7, rfl, fe, b7⟩
          have b17 := below_trans' b16 b7
          rw [fe.zero]
          clear fe b16 b7 SL
          go_wp2_with fail
          rename Below w.heap.size w w7 => bel
          have hw := hwr.out
          have hp := HP4.out
          have hc := hcat.out
          have hq := SEQ.out
          go_region_held3 (fun w' => Below w.heap.size w w') (first | assumption | exact bel | exact bel.drew)
            (first
            | (go_at_call 27; (with_reducible refine (OO.out _ sE nE cE (a2.take k) HL2.out.1 ?_).mono ?_); exact H1.out.below (by assumption); rintro e w8 ⟨v, rfl, hown, b8⟩; rw [LT1.out] at hown; have bel8 := below_trans' (by assumption) b8; obtain ⟨A, cap, rfl⟩ := owns_slice hown; have SL := Lib.hid (SliceIs.ownedK hown); clear hown b8)
            | (go_at_call 27; (with_reducible refine (OO.out _ s2 a2.length c2 a2 l40 ?_).mono ?_); exact HS.out.below (by assumption); rintro e w8 ⟨v, rfl, hown, b8⟩; have bel8 := below_trans' (by assumption) b8; obtain ⟨A, cap, rfl⟩ := owns_slice hown; have SL := Lib.hid (SliceIs.ownedK hown); clear hown b8)
            | (go_at_call 27; (with_reducible refine (OO.out _ sH nH cH (a2.drop k) HL2.out.2 ?_).mono ?_); exact H2'.out.below (by assumption); rintro e w8 ⟨v, rfl, hown, b8⟩; rw [LT2.out] at hown; have bel8 := below_trans' (by assumption) b8; obtain ⟨A, cap, rfl⟩ := owns_slice hown; have SL := Lib.hid (SliceIs.ownedK hown); clear hown b8)
            | (go_at_call 28; refine (CC1.out _ _ _ _ SL.out).mono ?_; rintro e w8 ⟨rfl, b8⟩; have bel8 := below_trans' (by assumption) b8; clear b8 SL)
            | (go_at_call 28; refine (CC2.out _ _ _ _ SL.out).mono ?_; rintro e w8 ⟨rfl, b8⟩; have bel8 := below_trans' (by assumption) b8; clear b8 SL)
            | (go_at_call 28; refine (CC3.out _ _ _ _ SL.out).mono ?_; rintro e w8 ⟨rfl, b8⟩; have bel8 := below_trans' (by assumption) b8; clear b8 SL))
          go_wp2_with fail
          go_ret
          exact ⟨rfl, by assumption⟩
        · have HER := Lib.hid herr
          have HEM : Hid (Value.string (bs (appl a0.data.toList a1 a2).2) = .string ⟨#[]⟩) := by show _ = _; rw [appl_err herr, bs_nil]
          clear herr
          go_enter Tryd.func6, Tryd.ntmps6
          go_wp2_with fail
          refine PO.out.mono ?_
          rintro e w1 ⟨rfl, b1⟩
          go_wp2_with (go_at_call 25; refine (LO.out _ b1).mono ?_; rintro e w2 ⟨rfl, rfl⟩)
          refine (OO.out _ _ _ _ a2 l40 (HS.out.below b1)).mono ?_
          rintro e w2 ⟨v, rfl, hown, b2⟩
          have b12 := below_trans' b1 b2
          obtain ⟨A, cap, hv⟩ := owns_slice hown
          rw [hv] at hown ⊢
          have SL := Lib.hid (SliceIs.ownedK hown)
          clear hown hv b1 b2
          go_wp2_with fail
          refine (AP.out _ _ _ _ a2 b12 SL.out).mono ?_
          rintro e w3 ⟨v3, rfl, fe, b3⟩
          have b13 := below_trans' b12 b3
          rw [HEM.out]
          obtain ⟨t, p, hv⟩ := fe.some HER.out
          rw [hv]
          clear fe hv b12 b3
          go_wp2_with fail
          go_ret
          exact ⟨rfl, b13⟩
      · have hno : a3 < 0 ∨ ¬ a3 < 0 ∧ (a2.length : Int) < a3 := by omega
        rcases hno with h | ⟨h, h'⟩
        all_goals
          go_enter Tryd.func6, Tryd.ntmps6
          go_wp2_with fail
          refine PO.out.mono ?_
          rintro e w1 ⟨rfl, b1⟩
          go_wp2_with (go_at_call 25; refine (LO.out _ b1).mono ?_; rintro e w2 ⟨rfl, rfl⟩)
          go_ret
          exact ⟨rfl, b1⟩
    · have hl : longB a2 = true := by simpa using hl
      rw [hl] at LO
      go_enter Tryd.func6, Tryd.ntmps6
      go_wp2_with fail
      refine PO.out.mono ?_
      rintro e w1 ⟨rfl, b1⟩
      go_wp2_with (go_at_call 25; refine (LO.out _ b1).mono ?_; rintro e w2 ⟨rfl, rfl⟩)
      go_ret
      exact ⟨rfl, b1⟩
  · have h0I : (200 : Int) < a0.size := by omega
    go_enter Tryd.func6, Tryd.ntmps6
    go_wp2_with fail
    refine PO.out.mono ?_
    rintro e w1 ⟨rfl, b1⟩
    go_wp2_with fail
    go_ret
    exact ⟨rfl, b1⟩
end Go.Proofs.YtmpikgkaoafclaaDoor
