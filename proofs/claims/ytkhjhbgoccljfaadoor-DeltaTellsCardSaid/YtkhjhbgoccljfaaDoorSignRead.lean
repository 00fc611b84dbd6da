/- Contracts of sign.Read, and of the reference's SameBlocks. -/
import Derived.Test.YtkhjhbgoccljfaaDoorSignText
namespace Go.Proofs.YtkhjhbgoccljfaaDoor
open Go.RowKit

theorem getA_short (k : Nat) : ∀ i acc l, (getA k i acc l).2.2 = 0 → (getA k i acc l).2.1.length < l.length := by
  induction k with
  | zero => intro i acc l h; simp [getA_end] at h
  | succ k ih =>
    intro i acc l h
    cases l with
    | nil => simp [getA_nil] at h
    | cons c l =>
      by_cases h1 : 128 ≤ c.toNat
      · rw [getA_more h1] at h ⊢
        have := ih _ _ _ h
        simp only [List.length_cons]; omega
      · by_cases h2 : c.toNat = 0 ∧ 0 < i
        · rw [getA_zero h2.1 h2.2] at h; simp at h
        · by_cases h3 : 1099511627776 < acc + c.toNat % 128 * 128 ^ i
          · rw [getA_over (by omega) h2 h3] at h; simp at h
          · rw [getA_done (by omega) h2 h3]; simp
theorem gR_short (l : List UInt8) (h : gC l = 0) : (gR l).length < l.length := by
  unfold gR gC getL at *; exact getA_short 6 0 0 l h

/-- a block of a reader that has no error yet -/
def rdBlk (l : List UInt8) : Blk × List UInt8 × Nat :=
  (⟨rnN l 0, rnN (rnR l 0) (rnC l 0), rnN (rnR (rnR l 0) (rnC l 0)) (rnC (rnR l 0) (rnC l 0)) % 4294967296⟩,
   rnR (rnR (rnR l 0) (rnC l 0)) (rnC (rnR l 0) (rnC l 0)),
   if rnC (rnR (rnR l 0) (rnC l 0)) (rnC (rnR l 0) (rnC l 0)) = 0 ∧ 4294967295 < rnN (rnR (rnR l 0) (rnC l 0)) (rnC (rnR l 0) (rnC l 0)) then 1 else rnC (rnR (rnR l 0) (rnC l 0)) (rnC (rnR l 0) (rnC l 0)))
theorem rdBlk_is (l l1 l2 : List UInt8) (c1 c2 : Nat) (h1 : rnR l 0 = l1) (h2 : rnC l 0 = c1) (h3 : rnR l1 c1 = l2) (h4 : rnC l1 c1 = c2) :
    rdBlk l = (⟨rnN l 0, rnN l1 c1, rnN l2 c2 % 4294967296⟩, rnR l2 c2, if rnC l2 c2 = 0 ∧ 4294967295 < rnN l2 c2 then 1 else rnC l2 c2) := by
  subst h1 h2 h3 h4; rfl
theorem rnC_zero {l : List UInt8} {c : Nat} (h : rnC l c = 0) : c = 0 ∧ gC l = 0 := by
  by_cases hc : c = 0
  · subst hc; rw [(rn_zero l).2.2] at h; exact ⟨rfl, h⟩
  · rw [(rn_err l hc).2.2] at h; exact absurd h hc
theorem rdBlk_len (l : List UInt8) (h : (rdBlk l).2.2 = 0) : (rdBlk l).2.1.length < l.length := by
  have hi := rdBlk_is l _ _ _ _ rfl rfl rfl rfl
  rw [hi] at h ⊢
  simp only [] at h ⊢
  split at h
  · simp at h
  · have h3 := rnC_zero h
    have h2 := rnC_zero h3.1
    have := gR_short l (by have := (rnC_zero (l := l) (c := 0) h2.1).2; exact this)
    have e1 := (rn_zero l).2.1
    have l2 := rnR_len (rnR l 0) (rnC l 0)
    have l3 := rnR_len (rnR (rnR l 0) (rnC l 0)) (rnC (rnR l 0) (rnC l 0))
    rw [e1] at l2 l3 ⊢
    omega
def rdLoop : Nat → List UInt8 → Nat → List Blk → List Blk × List UInt8 × Nat
  | 0, l, c, out => (out, l, c)
  | f + 1, l, c, out => if c = 0 then rdLoop f (rdBlk l).2.1 (rdBlk l).2.2 (out ++ [(rdBlk l).1]) else (out, l, c)
theorem rdLoop_end (l : List UInt8) (c : Nat) (out : List Blk) : rdLoop 0 l c out = (out, l, c) := rfl
theorem rdLoop_err (f : Nat) (l : List UInt8) {c : Nat} (h : c ≠ 0) (out : List Blk) : rdLoop f l c out = (out, l, c) := by
  cases f with
  | zero => rfl
  | succ f => simp [rdLoop, h]
theorem rdLoop_step {f : Nat} (hf : 0 < f) (l : List UInt8) (out : List Blk) : rdLoop f l 0 out = rdLoop (f - 1) (rdBlk l).2.1 (rdBlk l).2.2 (out ++ [(rdBlk l).1]) := by
  obtain ⟨g, rfl⟩ : ∃ g, f = g + 1 := ⟨f - 1, by omega⟩
  simp [rdLoop]
def rd0 (L : List UInt8) : List Blk × List UInt8 × Nat := rdLoop (rnN (rnR L 0) (rnC L 0)) (rnR (rnR L 0) (rnC L 0)) (rnC (rnR L 0) (rnC L 0)) []
/-- blocks that are read, their size, an error's number -/
def readSg (L : List UInt8) : List Blk × Nat × Nat :=
  if rEnd (rd0 L).2.1 (rd0 L).2.2 ≠ 0 then ([], 0, rEnd (rd0 L).2.1 (rd0 L).2.2)
  else if (chk (rd0 L).1 (rnN L 0)).1 ≠ 0 then ([], 0, (chk (rd0 L).1 (rnN L 0)).1) else ((rd0 L).1, rnN L 0, 0)
theorem readSg_end {L l : List UInt8} {c : Nat} {out : List Blk} (h : rd0 L = (out, l, c)) (h1 : rEnd l c ≠ 0) : readSg L = ([], 0, rEnd l c) := by simp [readSg, h, h1]
theorem readSg_bad {L l : List UInt8} {c : Nat} {out : List Blk} (h : rd0 L = (out, l, c)) (h1 : rEnd l c = 0) (h2 : (chk out (rnN L 0)).1 ≠ 0) : readSg L = ([], 0, (chk out (rnN L 0)).1) := by simp [readSg, h, h1, h2]
theorem readSg_ok {L l : List UInt8} {c : Nat} {out : List Blk} (h : rd0 L = (out, l, c)) (h1 : rEnd l c = 0) (h2 : (chk out (rnN L 0)).1 = 0) : readSg L = (out, rnN L 0, 0) := by simp [readSg, h, h1, h2]
theorem rd0_is {L l1 l2 : List UInt8} {c1 c2 : Nat} (h1 : rnR L 0 = l1) (h2 : rnC L 0 = c1) (h3 : rnR l1 c1 = l2) (h4 : rnC l1 c1 = c2) : rd0 L = rdLoop (rnN l1 c1) l2 c2 [] := by subst h1 h2 h3 h4; rfl
attribute [irreducible] rdBlk rdLoop rd0 readSg

theorem owns_mono {w : World} {base base' : Nat} {e : TypeId} {size : Nat} {v : Value} {n : Nat} {xs : List Value} (h : w.ownsRow base e size v n xs) (hb : base' ≤ base) : w.ownsRow base' e size v n xs := by
  obtain ⟨h1, h2⟩ := h
  refine ⟨h1, ?_⟩
  rcases h2 with h2 | ⟨g, cap, cur, hv, hg, r⟩
  · exact .inl h2
  · exact .inr ⟨g, cap, cur, hv, by omega, r⟩
theorem owns_other' {w w' : World} {base b : Nat} {e : TypeId} {size : Nat} {v : Value} {n : Nat} {xs : List Value} (h : w.ownsRow base e size v n xs) (hb : b < base) (hg : w.grownBy w' (some b)) : w'.ownsRow base e size v n xs :=
  h.kept hg (by
    rcases hx : v.ownBlock with _ | j
    · exact .inl rfl
    · exact .inr (by have := h.lt j hx; simp; omega))

set_option maxRecDepth 100000 in
set_option maxHeartbeats 3200000 in
theorem sread_any (E : Nat → Addr) (s : ByteArray) (w : World) (hs : s.size ≤ 1000000000) (hT : Has E w 1) (hB : Has E w 2) (hF : Has E w 8) :
    Calls Tryd.prog 24 #[.string s] w fun e w' => ∃ v, e = .returned (.tuple #[v, .int .i64 (readSg s.data.toList).2.1, ev E (readSg s.data.toList).2.2]) ∧
      w'.ownsRow w.heap.size 92 3 v (readSg s.data.toList).1.length (bcells (readSg s.data.toList).1) ∧ Below w.heap.size w w' := by
  obtain ⟨i0, hi, hz0, hz1, hz2⟩ := info_parts info_blk
  obtain ⟨L, hL⟩ : ∃ L, L = s.data.toList := ⟨_, rfl⟩
  have hLl : L.length = s.size := by rw [hL]; simp
  rw [← hL]
  have hsb : s = bs L := by rw [hL, bs_of]
  have hLb : L.length ≤ 1000000000 := by omega
  clear hLl hL hs
  subst hsb
  have HB := Lib.hid hB
  have HT := Lib.hid hT
  have HFU := Lib.hid hF
  obtain ⟨l1, e1⟩ : ∃ x, rnR L 0 = x := ⟨_, rfl⟩
  obtain ⟨c1, e2⟩ : ∃ x, rnC L 0 = x := ⟨_, rfl⟩
  obtain ⟨l2, e3⟩ : ∃ x, rnR l1 c1 = x := ⟨_, rfl⟩
  obtain ⟨c2, e4⟩ : ∃ x, rnC l1 c1 = x := ⟨_, rfl⟩
  have hr0 := rd0_is e1 e2 e3 e4
  have hl1 := rnR_len L 0
  have hl2 := rnR_len l1 c1
  rw [e1] at hl1
  rw [e3] at hl2
  have N1 := Lib.hid (fun b (w : World) h => rnum_any E b L 0 w hLb h)
  have N2 := Lib.hid (fun b (w : World) h => rnum_any E b l1 c1 w (by omega) h)
  rw [e1, e2] at N1
  rw [e3, e4] at N2
  have HR0 := Lib.hid hr0
  have hml := rnN_le l1 c1
  generalize rnN l1 c1 = many at *
  generalize hsz : rnN L 0 = size at *
  have HSZ := Lib.hid hsz
  have HEZ := Lib.hid (ev_zero E)
  clear e1 e2 e3 e4 hr0 hB hT hF hsz
  have R0 : RAt E (w.alloc (.cells #[.string (bs L), .nilIface] 104)) w.heap.size L 0 := by unfold RAt; rw [ev_zero]; exact heap_alloc_new _ _
  have b0 := below_alloc' w (.cells #[.string (bs L), .nilIface] 104)
  go_enter Tryd.func24, Tryd.ntmps24
  go_wp2_with fail
  refine (N1.out _ _ R0 (HT.out.below b0) (HB.out.below b0)).mono ?_
  rintro e w1 ⟨rfl, R1, g1⟩
  have b1 := b0.grown g1 b0.size (fun k hk => by cases hk; exact Nat.le_refl _)
  have hb : w.heap.size ≤ w.heap.size := Nat.le_refl _
  clear R0 b0 g1
  go_wp2_with fail
  refine (N2.out _ _ R1 (HT.out.below b1) (HB.out.below b1)).mono ?_
  rintro e w2 ⟨rfl, R2, g2⟩
  have b2 := b1.grown g2 b1.size (fun k hk => by cases hk; exact Nat.le_refl _)
  clear R1 b1 g2
  go_wp2_with fail
  go_loopw [9, 8, 10, 11, 12] (fun i o _ _ _ wr => ∃ (k : Nat) (out : List Blk) (l : List UInt8) (c : Nat), i = .int .i64 k ∧ k ≤ many ∧ out.length = k ∧ out.length ≤ L.length + 1 ∧ (c = 0 → out.length + l.length ≤ L.length) ∧ l.length ≤ L.length ∧
      rd0 L = rdLoop (many - k) l c out ∧ RAt E wr w.heap.size l c ∧ wr.ownsRow (w.heap.size + 1) 92 3 o k (bcells out) ∧ Below w.heap.size w wr) (fun i _ _ _ _ _ => many - (intOf i).toNat)
  case atStart => exact ⟨0, [], l2, c2, rfl, by omega, rfl, by simp, fun _ => by simp; omega, by omega, HR0.out, R2, by rw [bcells_nil]; exact World.ownsRow_nil _ _ _ _, b2⟩
  case round =>
    clear R2 b2
    obtain ⟨k, out, l, c, rfl, hk, hok, ho1, ho2, hll, hrd, R, hown, bel⟩ := hrel
    have HRD := Lib.hid hrd
    have HOK := Lib.hid hok
    have HO2 := Lib.hid ho2
    obtain ⟨r0, r1⟩ := R.cs
    clear hrd hok ho2
    by_cases hgo : k < many ∧ c = 0
    · obtain ⟨hlt, rfl⟩ := hgo
      have hltI : (k : Int) < many := by omega
      rw [ev_zero] at r1
      obtain ⟨m1, f1⟩ : ∃ x, rnR l 0 = x := ⟨_, rfl⟩
      obtain ⟨d1, f2⟩ : ∃ x, rnC l 0 = x := ⟨_, rfl⟩
      obtain ⟨m2, f3⟩ : ∃ x, rnR m1 d1 = x := ⟨_, rfl⟩
      obtain ⟨d2, f4⟩ : ∃ x, rnC m1 d1 = x := ⟨_, rfl⟩
      obtain ⟨m3, f5⟩ : ∃ x, rnR m2 d2 = x := ⟨_, rfl⟩
      obtain ⟨d3, f6⟩ : ∃ x, rnC m2 d2 = x := ⟨_, rfl⟩
      have hblk := rdBlk_is l m1 m2 d1 d2 f1 f2 f3 f4
      rw [f5, f6] at hblk
      have hstep := HRD.out.trans (rdLoop_step (by omega) l out)
      have hshort := rdBlk_len l
      have hlm1 := rnR_len l 0
      have hlm2 := rnR_len m1 d1
      have hlm3 := rnR_len m2 d2
      rw [f1] at hlm1
      rw [f3] at hlm2
      rw [f5] at hlm3
      have P1 := Lib.hid (fun b (w : World) h => rnum_any E b l 0 w (by omega) h)
      have P2 := Lib.hid (fun b (w : World) h => rnum_any E b m1 d1 w (by omega) h)
      have P3 := Lib.hid (fun b (w : World) h => rnum_any E b m2 d2 w (by omega) h)
      rw [f1, f2] at P1
      rw [f3, f4] at P2
      rw [f5, f6] at P3
      rw [hblk] at hstep hshort
      simp only [] at hstep hshort
      generalize rnN l 0 = x1 at *
      generalize rnN m1 d1 = x2 at *
      generalize rnN m2 d2 = x3 at *
      have HSTEP := Lib.hid hstep
      have HSH := Lib.hid hshort
      have KK := Lib.hid (show k + 1 ≤ many ∧ many - (k + 1) = many - k - 1 by omega)
      have HO3 := Lib.hid (HO2.out rfl)
      clear f1 f2 f3 f4 f5 f6 hblk hstep hshort
      have hsz0 := R.lt
      go_wp2_with fail
      refine (P1.out _ _ R (HT.out.below bel) (HB.out.below bel)).mono ?_
      rintro e v1 ⟨rfl, R1, g1⟩
      have bel1 := bel.grown g1 bel.size (fun k hk => by cases hk; exact Nat.le_refl _)
      have hown1 := owns_other' hown (Nat.lt_succ_self _) g1
      clear R bel g1 hown r0 r1
      go_wp2_with fail
      refine (P2.out _ _ R1 (HT.out.below bel1) (HB.out.below bel1)).mono ?_
      rintro e v2 ⟨rfl, R2, g2⟩
      have bel2 := bel1.grown g2 bel1.size (fun k hk => by cases hk; exact Nat.le_refl _)
      have hown2 := owns_other' hown1 (Nat.lt_succ_self _) g2
      clear R1 bel1 g2 hown1
      go_wp2_with fail
      refine (P3.out _ _ R2 (HT.out.below bel2) (HB.out.below bel2)).mono ?_
      rintro e v3 ⟨rfl, R3, g3⟩
      have bel3 := bel2.grown g3 bel2.size (fun k hk => by cases hk; exact Nat.le_refl _)
      have hown3 := owns_other' hown2 (Nat.lt_succ_self _) g3
      clear R2 bel2 g3 hown2
      obtain ⟨r0, r1⟩ := R3.cs
      have fz := R3.fz 1
      have t1 : v3.cell? ⟨3, 0, none⟩ = some (errv (E 1)) := HT.out.below bel3
      unfold errv at t1
      have hsz3 := R3.lt
      by_cases hd : d3 = 0
      · subst hd
        rw [ev_zero] at r1
        by_cases hx : 4294967295 < x3
        · have hxI : (4294967295 : Int) < x3 := by omega
          have R4 := Lib.hid (R3.set1 1 _ (ev_is E (c := 1) (by decide)).symm)
          unfold errv at R4
          have hs := HSTEP.out
          rw [if_pos ⟨rfl, hx⟩] at hs
          have HS := Lib.hid hs
          clear hs HSTEP HSH
          have OWN := Lib.hid (owns_other' hown3 (Nat.lt_succ_self _) (grownBy_set v3 w.heap.size 1 (.iface 163 (.pointer (some (E 1))))))
          have RR := R4
          have HSZ3 := Lib.hid hsz3
          have BELX := bel3.setCell (p := ⟨w.heap.size, 1, none⟩) (Nat.le_refl _) (.iface 163 (.pointer (some (E 1))))
          have HM1 : Hid (k + 1 ≤ maxLen) := by show _ ≤ _; unfold maxLen; omega
          have HM2 : Hid ((k + 1) * 24 ≤ 140737488355328) := by show _ ≤ _; have := HOK.out; omega
          have HM3 : Hid (w.heap.size + 1 ≤ ((v3.setCell ⟨w.heap.size, 1, none⟩ (.iface 163 (.pointer (some (E 1))))).alloc (.cells #[.int .i64 x1, .int .i64 x2, .int .u32 ((x3 : Int) % 4294967296)] 92)).heap.size) := by show _ ≤ _; have := BELX.size; have := HSZ3.out; simp; omega
          have NEWH : Hid (((v3.setCell ⟨w.heap.size, 1, none⟩ (.iface 163 (.pointer (some (E 1))))).alloc (.cells #[.int .i64 x1, .int .i64 x2, .int .u32 ((x3 : Int) % 4294967296)] 92)).heap[v3.heap.size]? = some (.cells #[.int .i64 x1, .int .i64 x2, .int .u32 ((x3 : Int) % 4294967296)] 92 (0, 0))) := by
            have h := heap_alloc_new (v3.setCell ⟨w.heap.size, 1, none⟩ (.iface 163 (.pointer (some (E 1))))) (.cells #[.int .i64 x1, .int .i64 x2, .int .u32 ((x3 : Int) % 4294967296)] 92)
            have e : (v3.setCell ⟨w.heap.size, 1, none⟩ (.iface 163 (.pointer (some (E 1))))).heap.size = v3.heap.size := by simp
            rw [e] at h
            exact h
          go_wp2_with (at_builtin; refine wpList_append_own _ rfl _ _ 40 rfl (w.heap.size + 1) 92 i0 _ 3 24 Tryd.underlying40 hi hz0 hz1 hz2 rfl (by decide) _ _ _ rfl (OWN.out.alloc _) ⟨v3.heap.size, 0, none⟩ 1 1 [.int .i64 x1, .int .i64 x2, .int .u32 ((x3 : Int) % 4294967296)] rfl rfl (three_news NEWH.out) (fun u hu => by simp at hu; rcases hu with rfl | rfl | rfl <;> rfl) HM1.out HM2.out HM3.out ?_; intro v' v5 hown' hgrow _)
          have bel5 := (BELX.alloc BELX.size (.cells #[.int .i64 x1, .int .i64 x2, .int .u32 ((x3 : Int) % 4294967296)] 92)).grown hgrow (by have := BELX.size; simp; omega) (fun j hj => by have := (OWN.out.lt j hj).1; omega)
          have hne : some w.heap.size ≠ Value.ownBlock u8 := fun e => by have := (OWN.out.lt _ e.symm).1; omega
          have R5 := (RAt.below RR.out (below_alloc' _ (.cells #[.int .i64 x1, .int .i64 x2, .int .u32 ((x3 : Int) % 4294967296)] 92))).grown hgrow hne
          have hcells : bcells (out ++ [⟨x1, x2, x3 % 4294967296⟩]) = bcells out ++ [.int .i64 x1, .int .i64 x2, .int .u32 ((x3 : Int) % 4294967296)] := by
            rw [bcells_append, bcells_one]; simp only [Blk.cells]; simp
          go_roundw
          case rel => exact ⟨k + 1, out ++ [⟨x1, x2, x3 % 4294967296⟩], m3, 1, by go_num, KK.out.1, by simp [HOK.out], by have := HO3.out; simp; omega, (fun h => absurd h (by decide)), by omega, by rw [KK.out.2]; exact HS.out, R5, by rw [hcells]; exact hown', bel5⟩
          case measure => simp [intOf]; omega
        · have hxI : ¬ (4294967295 : Int) < x3 := by omega
          have hs := HSTEP.out
          rw [if_neg (fun h => hx h.2)] at hs
          have hs2 := HSH.out
          rw [if_neg (fun h => hx h.2)] at hs2
          have HS := Lib.hid hs
          have HS2 := Lib.hid (hs2 rfl)
          clear hs hs2 HSTEP HSH
          have OWN := Lib.hid hown3
          have RR := Lib.hid R3
          have HSZ3 := Lib.hid hsz3
          have hx3 : x3 % 4294967296 = x3 := by omega
          have HX3 := Lib.hid hx3
          clear hx3
          have HM1 : Hid (k + 1 ≤ maxLen) := by show _ ≤ _; unfold maxLen; omega
          have HM2 : Hid ((k + 1) * 24 ≤ 140737488355328) := by show _ ≤ _; have := HOK.out; omega
          have HM3 : Hid (w.heap.size + 1 ≤ (v3.alloc (.cells #[.int .i64 x1, .int .i64 x2, .int .u32 (x3 : Int)] 92)).heap.size) := by show _ ≤ _; have := bel3.size; have := HSZ3.out; simp; omega
          go_wp2_with (at_builtin; refine wpList_append_own _ rfl _ _ 40 rfl (w.heap.size + 1) 92 i0 _ 3 24 Tryd.underlying40 hi hz0 hz1 hz2 rfl (by decide) _ _ _ rfl (OWN.out.alloc _) ⟨v3.heap.size, 0, none⟩ 1 1 [.int .i64 x1, .int .i64 x2, .int .u32 (x3 : Int)] rfl rfl (three_news (heap_alloc_new _ _)) (fun u hu => by simp at hu; rcases hu with rfl | rfl | rfl <;> rfl) HM1.out HM2.out HM3.out ?_; intro v' v5 hown' hgrow _)
          have bel5 := (bel3.alloc bel3.size (.cells #[.int .i64 x1, .int .i64 x2, .int .u32 (x3 : Int)] 92)).grown hgrow (by have := bel3.size; simp; omega) (fun j hj => by have := (OWN.out.lt j hj).1; omega)
          have hne : some w.heap.size ≠ Value.ownBlock u8 := fun e => by have := (OWN.out.lt _ e.symm).1; omega
          have R5 := (RAt.below RR.out (below_alloc' _ (.cells #[.int .i64 x1, .int .i64 x2, .int .u32 (x3 : Int)] 92))).grown hgrow hne
          have hcells : bcells (out ++ [⟨x1, x2, x3 % 4294967296⟩]) = bcells out ++ [.int .i64 x1, .int .i64 x2, .int .u32 (x3 : Int)] := by
            rw [bcells_append, bcells_one]; simp only [Blk.cells]; rw [HX3.out]
          go_roundw
          case rel => exact ⟨k + 1, out ++ [⟨x1, x2, x3 % 4294967296⟩], m3, 0, by go_num, KK.out.1, by simp [HOK.out], by have := HO3.out; simp; omega, (fun _ => by have := HS2.out; have := HO3.out; simp; omega), by omega, by rw [KK.out.2]; exact HS.out, R5, by rw [hcells]; exact hown', bel5⟩
          case measure => simp [intOf]; omega
      · have hs := HSTEP.out
        rw [if_neg (fun h => hd h.1)] at hs
        have HS := Lib.hid hs
        have HD := Lib.hid hd
        have hev := ev_is E hd
        rw [hev] at r1
        unfold errv at r1
        clear hs HSTEP HSH hd hev
        have OWN := Lib.hid hown3
        have RR := Lib.hid R3
        have HSZ3 := Lib.hid hsz3
        have HM1 : Hid (k + 1 ≤ maxLen) := by show _ ≤ _; unfold maxLen; omega
        have HM2 : Hid ((k + 1) * 24 ≤ 140737488355328) := by show _ ≤ _; have := HOK.out; omega
        have HM3 : Hid (w.heap.size + 1 ≤ (v3.alloc (.cells #[.int .i64 x1, .int .i64 x2, .int .u32 ((x3 : Int) % 4294967296)] 92)).heap.size) := by show _ ≤ _; have := bel3.size; have := HSZ3.out; simp; omega
        go_wp2_with (at_builtin; refine wpList_append_own _ rfl _ _ 40 rfl (w.heap.size + 1) 92 i0 _ 3 24 Tryd.underlying40 hi hz0 hz1 hz2 rfl (by decide) _ _ _ rfl (OWN.out.alloc _) ⟨v3.heap.size, 0, none⟩ 1 1 [.int .i64 x1, .int .i64 x2, .int .u32 ((x3 : Int) % 4294967296)] rfl rfl (three_news (heap_alloc_new _ _)) (fun u hu => by simp at hu; rcases hu with rfl | rfl | rfl <;> rfl) HM1.out HM2.out HM3.out ?_; intro v' v5 hown' hgrow _)
        have bel5 := (bel3.alloc bel3.size (.cells #[.int .i64 x1, .int .i64 x2, .int .u32 ((x3 : Int) % 4294967296)] 92)).grown hgrow (by have := bel3.size; simp; omega) (fun j hj => by have := (OWN.out.lt j hj).1; omega)
        have hne : some w.heap.size ≠ Value.ownBlock u8 := fun e => by have := (OWN.out.lt _ e.symm).1; omega
        have R5 := (RAt.below RR.out (below_alloc' _ (.cells #[.int .i64 x1, .int .i64 x2, .int .u32 ((x3 : Int) % 4294967296)] 92))).grown hgrow hne
        have hcells : bcells (out ++ [⟨x1, x2, x3 % 4294967296⟩]) = bcells out ++ [.int .i64 x1, .int .i64 x2, .int .u32 ((x3 : Int) % 4294967296)] := by
          rw [bcells_append, bcells_one]; simp only [Blk.cells]; simp
        go_roundw
        case rel => exact ⟨k + 1, out ++ [⟨x1, x2, x3 % 4294967296⟩], m3, d3, by go_num, KK.out.1, by simp [HOK.out], by have := HO3.out; simp; omega, (fun h => absurd h HD.out), by omega, by rw [KK.out.2]; exact HS.out, R5, by rw [hcells]; exact hown', bel5⟩
        case measure => simp [intOf]; omega
    · have hEX : rd0 L = (out, l, c) := by
        rw [HRD.out]
        by_cases hc : c = 0
        · have : many - k = 0 := by omega
          rw [this, rdLoop_end]
        · exact rdLoop_err _ _ hc _
      have HEX := Lib.hid hEX
      clear hEX
      have WAYS : ¬ (k : Int) < many ∨ (k : Int) < many ∧ c ≠ 0 := by omega
      have EN := Lib.hid (rend_any E w.heap.size l c wr R (HT.out.below bel))
      clear hgo
      obtain ⟨A, cap, rfl⟩ := owns_slice hown
      have WAYS2 : ¬ (k : Int) < many ∨ (k : Int) < many ∧ ∃ x, ev E c = .iface 163 x := by
        rcases WAYS with h | ⟨h, hc⟩
        · exact .inl h
        · exact .inr ⟨h, _, ev_pos E hc⟩
      clear WAYS
      rcases WAYS2 with h | ⟨h, x, hx⟩
      all_goals
        try rw [hx] at r1
        try clear hx
        go_wp2_with fail
        refine EN.out.mono ?_
        rintro e v4 ⟨rfl, R4, g4⟩
        have bel4 := bel.grown g4 bel.size (fun k hk => by cases hk; exact Nat.le_refl _)
        have hown4 := owns_other' hown (Nat.lt_succ_self _) g4
        clear bel g4 hown R R4 r0 r1
        by_cases he : rEnd l c = 0
        · have CK := check_any E A k cap out size v4 (SliceIs.ownedK hown4) (HB.out.below bel4) (HFU.out.below bel4)
          have HCK := Lib.hid CK
          clear CK
          by_cases hcode : (chk out size).1 = 0
          · have hr := readSg_ok HEX.out he (by rw [HSZ.out]; exact hcode)
            rw [HSZ.out] at hr
            have HR := Lib.hid hr
            have HC := Lib.hid hcode
            rw [he, ev_zero]
            clear hr he hcode
            go_wp2_with fail
            refine HCK.out.mono ?_
            rintro e v5 ⟨v, rfl, fe, b5⟩
            rw [HC.out] at fe
            rw [fe.zero]
            clear fe
            go_wp2_with fail
            go_ret3
            refine ⟨_, by rw [HR.out, ev_zero]; rfl, ?_, below_trans' bel4 b5⟩
            rw [HR.out]
            simp only []
            rw [HOK.out]
            exact owns_mono (owns_below hown4 b5) (by omega)
          · have hr := readSg_bad HEX.out he (by rw [HSZ.out]; exact hcode)
            rw [HSZ.out] at hr
            have HR := Lib.hid hr
            have HC := Lib.hid hcode
            rw [he, ev_zero]
            clear hr he hcode
            go_wp2_with fail
            refine HCK.out.mono ?_
            rintro e v5 ⟨v, rfl, fe, b5⟩
            have BA := Lib.hid (bare_any E v _ _ v5 fe)
            obtain ⟨t, p, hv⟩ := fe.some HC.out
            rw [hv] at BA ⊢
            clear fe hv
            go_wp2_with fail
            refine BA.out.mono ?_
            rintro e v6 ⟨rfl, rfl⟩
            go_wp2_with fail
            go_ret3
            refine ⟨.slice none 0 0, by rw [HR.out]; rfl, ?_, below_trans' bel4 b5⟩
            rw [HR.out]
            simp only []
            rw [bcells_nil]
            exact World.ownsRow_nil _ _ _ _
        · have HR := Lib.hid (readSg_end HEX.out he)
          have hev := ev_is E he
          rw [hev]
          have HEV := Lib.hid hev
          unfold errv at HEV ⊢
          clear hev he
          go_wp2_with fail
          go_ret3
          refine ⟨.slice none 0 0, by rw [HR.out, HEV.out]; rfl, ?_, bel4⟩
          rw [HR.out]
          simp only []
          rw [bcells_nil]
          exact World.ownsRow_nil _ _ _ _

/-! ### SameBlocks -/
def sameB (a b : List Blk) : Bool := decide (a = b)
theorem sameB_yes {a b : List Blk} (h : a = b) : sameB a b = true := by simp [sameB, h]
theorem sameB_no {a b : List Blk} (h : a ≠ b) : sameB a b = false := by simp [sameB, h]
attribute [irreducible] sameB
theorem take_ext {α : Type} {a b : List α} (k : Nat) (h : a.take k = b.take k) (h1 : k < a.length) (h2 : k < b.length) (he : a[k] = b[k]) : a.take (k + 1) = b.take (k + 1) := by
  rw [List.take_succ_eq_append_getElem h1, List.take_succ_eq_append_getElem h2, h, he]

set_option maxRecDepth 100000 in
set_option maxHeartbeats 3200000 in
theorem sameBlocks_any (s0 : Option Addr) (n0 c0 : Nat) (s1 : Option Addr) (n1 c1 : Nat) (la lb : List Blk) (w : World) (ha : SliceIs w (.slice s0 n0 c0) 3 (bcells la)) (hb : SliceIs w (.slice s1 n1 c1) 3 (bcells lb)) :
    Calls Tryd.prog 17 #[.slice s0 n0 c0, .slice s1 n1 c1] w fun e w' => e = .returned (.bool (sameB la lb)) ∧ Drew w w' := by
  have hlen : la.length = n0 ∧ c0 ≤ maxLen ∧ n0 ≤ c0 := by
    obtain ⟨s0', n0', c0', e1, e2, e3, e4, _⟩ := ha.get
    cases e1
    rw [bcells_len] at e2
    exact ⟨by omega, e4, e3⟩
  have hlen1 : lb.length = n1 := by
    obtain ⟨s0', n0', c0', e1, e2, e3, e4, _⟩ := hb.get
    cases e1
    rw [bcells_len] at e2
    omega
  obtain ⟨rfl, hc0, hc1⟩ := hlen
  subst hlen1
  unfold maxLen at hc0
  have HA := Lib.hid ha
  have HBB := Lib.hid hb
  clear ha hb
  by_cases hl : la.length = lb.length
  · have hlI : ((la.length : Int) != (lb.length : Int)) = false := by simp; omega
    have HL := Lib.hid hl
    clear hl
    go_enter Tryd.func17, Tryd.ntmps17
    go_wp2_with fail
    clear hlI
    go_loopw [5] (fun i wr => ∃ k : Nat, i = .int .i64 k ∧ k ≤ la.length ∧ la.take k = lb.take k ∧ Drew w wr) (fun i _ => la.length - (intOf i).toNat)
    case atStart => exact ⟨0, rfl, by omega, by simp, Drew.refl _⟩
    case round =>
      obtain ⟨k, rfl, hk, hpre, m, rfl⟩ := hrel
      by_cases hlt : k < la.length
      · have hltI : (k : Int) < la.length := by omega
        have hlt2 : k < lb.length := by have := HL.out; omega
        have hlt2I : (k : Int) < lb.length := by omega
        obtain ⟨s0', n0', c0', e1, _, _, _, g1⟩ := HA.out.get
        cases e1
        obtain ⟨g2, g3, g4⟩ := bcells_get la k hlt
        obtain ⟨ad, rfl, d0⟩ := g1 _ _ g2
        obtain ⟨a', e', d1⟩ := g1 _ _ g3
        cases e'
        obtain ⟨a', e', d2⟩ := g1 _ _ g4
        cases e'
        clear g1 g2 g3 g4
        obtain ⟨s0', n0', c0', e1, _, _, _, g1⟩ := HBB.out.get
        cases e1
        obtain ⟨g2, g3, g4⟩ := bcells_get lb k hlt2
        obtain ⟨bd, rfl, e0⟩ := g1 _ _ g2
        obtain ⟨a', e', e1⟩ := g1 _ _ g3
        cases e'
        obtain ⟨a', e', e2⟩ := g1 _ _ g4
        cases e'
        clear g1 g2 g3 g4
        have NEXT := Lib.hid (fun h => take_ext k hpre hlt hlt2 h)
        have BAD : Hid (la[k] ≠ lb[k] → sameB la lb = false) := fun h => sameB_no (fun e => h (by subst e; rfl))
        have KK := Lib.hid (show k + 1 ≤ la.length by omega)
        have x1 : (0 : Int) ≤ k := by omega
        have x2 : (k : Int).toNat = k := by omega
        clear hpre
        generalize la[k] = p at d0 d1 d2 NEXT BAD
        generalize lb[k] = q at e0 e1 e2 NEXT BAD
        obtain ⟨pn, pw, pS⟩ := p
        obtain ⟨qn, qw, qS⟩ := q
        have d1 := cell_at d1
        have d2 := cell_at d2
        have e1 := cell_at e1
        have e2 := cell_at e2
        simp only [] at d0 d1 d2 e0 e1 e2
        by_cases q1 : pn = qn
        · by_cases q2 : pw = qw
          · by_cases q3 : pS = qS
            · have N := Lib.hid (NEXT.out (by rw [q1, q2, q3]))
              subst q1 q2 q3
              clear NEXT BAD
              go_wp2_with fail
              go_quiet (fail)
              go_wp2_with fail
              go_roundw
              case rel => exact ⟨k + 1, by go_num, KK.out, N.out, by first | exact Drew.drewN _ _ | exact (Drew.drewN _ _).trans (Drew.drewN _ _)⟩
              case measure => simp [intOf]; omega
            · have N := Lib.hid (BAD.out (by intro h; cases h; exact q3 rfl))
              have q3b : ((pS : Int) != (qS : Int)) = true := by simp; omega
              subst q1 q2
              clear NEXT BAD q3
              go_wp2_with fail
              go_quiet (fail)
              go_wp2_with fail
              go_ret
              exact ⟨ret_bool N.out.symm, by first | exact Drew.drewN _ _ | exact (Drew.drewN _ _).trans (Drew.drewN _ _)⟩
          · have N := Lib.hid (BAD.out (by intro h; cases h; exact q2 rfl))
            have q2b : (pw != qw) = true := by simp [q2]
            subst q1
            clear NEXT BAD q2
            go_wp2_with fail
            go_quiet (fail)
            go_wp2_with fail
            go_ret
            exact ⟨ret_bool N.out.symm, by first | exact Drew.drewN _ _ | exact (Drew.drewN _ _).trans (Drew.drewN _ _)⟩
        · have N := Lib.hid (BAD.out (by intro h; cases h; exact q1 rfl))
          have q1b : (pn != qn) = true := by simp [q1]
          clear NEXT BAD q1
          go_wp2_with fail
          go_quiet (fail)
          go_wp2_with fail
          go_ret
          exact ⟨ret_bool N.out.symm, by first | exact Drew.drewN _ _ | exact (Drew.drewN _ _).trans (Drew.drewN _ _)⟩
      · have hltI : ¬ (k : Int) < la.length := by omega
        have N := Lib.hid (sameB_yes (show la = lb by
          have h1 : la.take k = la := List.take_of_length_le (by omega)
          have h2 : lb.take k = lb := List.take_of_length_le (by have := HL.out; omega)
          rw [← h1, ← h2]; exact hpre))
        clear hpre
        go_wp2_with fail
        go_ret
        exact ⟨ret_bool N.out.symm, Drew.drewN _ _⟩
  · have hlI : ((la.length : Int) != (lb.length : Int)) = true := by simp; omega
    have N := Lib.hid (sameB_no (fun e : la = lb => hl (by rw [e])))
    clear hl
    go_enter Tryd.func17, Tryd.ntmps17
    go_wp2_with fail
    go_ret
    exact ⟨ret_bool N.out.symm, Drew.refl _⟩
end Go.Proofs.YtkhjhbgoccljfaaDoor
