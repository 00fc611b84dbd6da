/- Texts of one proof, one behind the other: SignRead, Ops, Ops2. -/
import Derived.Test.YtppkeophochgiaaGreatDoorB18
import Derived.Test.YtppkeophochgiaaGreatDoorB08
import Derived.Test.YtppkeophochgiaaGreatDoorB04
import Derived.Test.YtppkeophochgiaaGreatDoorB16
import Derived.Laws.AppendOwnNone
/- Contracts of sign.Read, and of the reference's SameBlocks. -/
namespace Go.Proofs.YtppkeophochgiaaGreatDoor
open Go.RowKit

/-- a block of a reader that has no error yet -/
def rdBlk (l : List UInt8) : Blk × List UInt8 × Nat :=
  (⟨rnN l 0, rnN (rnR l 0) (rnC l 0), rnN (rnR (rnR l 0) (rnC l 0)) (rnC (rnR l 0) (rnC l 0)) % 4294967296⟩,
   rnR (rnR (rnR l 0) (rnC l 0)) (rnC (rnR l 0) (rnC l 0)),
   if rnC (rnR (rnR l 0) (rnC l 0)) (rnC (rnR l 0) (rnC l 0)) = 0 ∧ 4294967295 < rnN (rnR (rnR l 0) (rnC l 0)) (rnC (rnR l 0) (rnC l 0)) then 1 else rnC (rnR (rnR l 0) (rnC l 0)) (rnC (rnR l 0) (rnC l 0)))
theorem rdBlk_is (l l1 l2 : List UInt8) (c1 c2 : Nat) (h1 : rnR l 0 = l1) (h2 : rnC l 0 = c1) (h3 : rnR l1 c1 = l2) (h4 : rnC l1 c1 = c2) :
    rdBlk l = (⟨rnN l 0, rnN l1 c1, rnN l2 c2 % 4294967296⟩, rnR l2 c2, if rnC l2 c2 = 0 ∧ 4294967295 < rnN l2 c2 then 1 else rnC l2 c2) := by
  subst h1 h2 h3 h4; rfl
theorem rdBlk_len (l : List UInt8) (h : (rdBlk l).2.2 = 0) : (rdBlk l).2.1.length < l.length := by
  have hi := rdBlk_is l _ _ _ _ rfl rfl rfl rfl
  rw [hi] at h ⊢
  simp only [] at h ⊢
  split at h
  · simp at h
  · have h3 := rnC_zero h
    have h2 := rnC_zero h3.1
    have := gR_short l (by have := (rnC_zero (l := l) (c := 0) h2.1).2; exact this)
    have e1 := (rn_zero l).2.1
    have l2 := rnR_len (rnR l 0) (rnC l 0)
    have l3 := rnR_len (rnR (rnR l 0) (rnC l 0)) (rnC (rnR l 0) (rnC l 0))
    rw [e1] at l2 l3 ⊢
    omega
def rdLoop : Nat → List UInt8 → Nat → List Blk → List Blk × List UInt8 × Nat
  | 0, l, c, out => (out, l, c)
  | f + 1, l, c, out => if c = 0 then rdLoop f (rdBlk l).2.1 (rdBlk l).2.2 (out ++ [(rdBlk l).1]) else (out, l, c)
theorem rdLoop_end (l : List UInt8) (c : Nat) (out : List Blk) : rdLoop 0 l c out = (out, l, c) := rfl
theorem rdLoop_err (f : Nat) (l : List UInt8) {c : Nat} (h : c ≠ 0) (out : List Blk) : rdLoop f l c out = (out, l, c) := by
  cases f with
  | zero => rfl
  | succ f => simp [rdLoop, h]
theorem rdLoop_step {f : Nat} (hf : 0 < f) (l : List UInt8) (out : List Blk) : rdLoop f l 0 out = rdLoop (f - 1) (rdBlk l).2.1 (rdBlk l).2.2 (out ++ [(rdBlk l).1]) := by
  obtain ⟨g, rfl⟩ : ∃ g, f = g + 1 := ⟨f - 1, by omega⟩
  simp [rdLoop]
def rd0 (L : List UInt8) : List Blk × List UInt8 × Nat := rdLoop (rnN (rnR L 0) (rnC L 0)) (rnR (rnR L 0) (rnC L 0)) (rnC (rnR L 0) (rnC L 0)) []
/-- blocks that are read, their size, an error's number -/
def readSg (L : List UInt8) : List Blk × Nat × Nat :=
  if rEnd (rd0 L).2.1 (rd0 L).2.2 ≠ 0 then ([], 0, rEnd (rd0 L).2.1 (rd0 L).2.2)
  else if (chk (rd0 L).1 (rnN L 0)).1 ≠ 0 then ([], 0, (chk (rd0 L).1 (rnN L 0)).1) else ((rd0 L).1, rnN L 0, 0)
theorem readSg_end {L l : List UInt8} {c : Nat} {out : List Blk} (h : rd0 L = (out, l, c)) (h1 : rEnd l c ≠ 0) : readSg L = ([], 0, rEnd l c) := by simp [readSg, h, h1]
theorem readSg_bad {L l : List UInt8} {c : Nat} {out : List Blk} (h : rd0 L = (out, l, c)) (h1 : rEnd l c = 0) (h2 : (chk out (rnN L 0)).1 ≠ 0) : readSg L = ([], 0, (chk out (rnN L 0)).1) := by simp [readSg, h, h1, h2]
theorem readSg_ok {L l : List UInt8} {c : Nat} {out : List Blk} (h : rd0 L = (out, l, c)) (h1 : rEnd l c = 0) (h2 : (chk out (rnN L 0)).1 = 0) : readSg L = (out, rnN L 0, 0) := by simp [readSg, h, h1, h2]
theorem rd0_is {L l1 l2 : List UInt8} {c1 c2 : Nat} (h1 : rnR L 0 = l1) (h2 : rnC L 0 = c1) (h3 : rnR l1 c1 = l2) (h4 : rnC l1 c1 = c2) : rd0 L = rdLoop (rnN l1 c1) l2 c2 [] := by subst h1 h2 h3 h4; rfl
attribute [irreducible] rdBlk rdLoop rd0 readSg
set_option maxRecDepth 100000 in
set_option maxHeartbeats 3200000 in
theorem sread_any (E : Nat → Addr) (s : ByteArray) (w : World) (hs : s.size ≤ 1000000000) (hT : Has E w 1) (hB : Has E w 2) (hF : Has E w 8) :
    Calls Tryz.prog 224 #[.string s] w fun e w' => ∃ v, e = .returned (.tuple #[v, .int .i64 (readSg s.data.toList).2.1, ev E (readSg s.data.toList).2.2]) ∧
      w'.ownsRow w.heap.size 142 3 v (readSg s.data.toList).1.length (bcells (readSg s.data.toList).1) ∧ Below w.heap.size w w' := by
  obtain ⟨i0, hi, hz0, hz1, hz2⟩ := info_parts info_blk
  obtain ⟨L, hL⟩ : ∃ L, L = s.data.toList := ⟨_, rfl⟩
  have hLl : L.length = s.size := by rw [hL]; simp
  rw [← hL]
  have hsb : s = bs L := by rw [hL, bs_of]
  have hLb : L.length ≤ 1000000000 := by omega
  clear hLl hL hs
  subst hsb
  have HB := Lib.hid hB
  have HT := Lib.hid hT
  have HFU := Lib.hid hF
  obtain ⟨l1, e1⟩ : ∃ x, rnR L 0 = x := ⟨_, rfl⟩
  obtain ⟨c1, e2⟩ : ∃ x, rnC L 0 = x := ⟨_, rfl⟩
  obtain ⟨l2, e3⟩ : ∃ x, rnR l1 c1 = x := ⟨_, rfl⟩
  obtain ⟨c2, e4⟩ : ∃ x, rnC l1 c1 = x := ⟨_, rfl⟩
  have hr0 := rd0_is e1 e2 e3 e4
  have hl1 := rnR_len L 0
  have hl2 := rnR_len l1 c1
  rw [e1] at hl1
  rw [e3] at hl2
  have N1 := Lib.hid (fun b (w : World) h => rnum_any E b L 0 w hLb h)
  have N2 := Lib.hid (fun b (w : World) h => rnum_any E b l1 c1 w (by omega) h)
  rw [e1, e2] at N1
  rw [e3, e4] at N2
  have HR0 := Lib.hid hr0
  have hml := rnN_le l1 c1
  generalize rnN l1 c1 = many at *
  generalize hsz : rnN L 0 = size at *
  have HSZ := Lib.hid hsz
  have HEZ := Lib.hid (ev_zero E)
  clear e1 e2 e3 e4 hr0 hB hT hF hsz
  have R0 : RAt E (w.alloc (.cells #[.string (bs L), .nilIface] 304)) w.heap.size L 0 := by unfold RAt; rw [ev_zero]; exact heap_alloc_new _ _
  have b0 := below_alloc' w (.cells #[.string (bs L), .nilIface] 304)
  go_enter Tryz.func224, Tryz.ntmps224
  go_wp2_with fail
  refine (N1.out _ _ R0 (HT.out.below b0) (HB.out.below b0)).mono ?_
  rintro e w1 ⟨rfl, R1, g1⟩
  have b1 := b0.grown g1 b0.size (fun k hk => by cases hk; exact Nat.le_refl _)
  have hb : w.heap.size ≤ w.heap.size := Nat.le_refl _
  clear R0 b0 g1
  go_wp2_with fail
  refine (N2.out _ _ R1 (HT.out.below b1) (HB.out.below b1)).mono ?_
  rintro e w2 ⟨rfl, R2, g2⟩
  have b2 := b1.grown g2 b1.size (fun k hk => by cases hk; exact Nat.le_refl _)
  clear R1 b1 g2
  go_wp2_with fail
  go_loopw [9, 8, 10, 11, 12] (fun i o _ _ _ wr => ∃ (k : Nat) (out : List Blk) (l : List UInt8) (c : Nat), i = .int .i64 k ∧ k ≤ many ∧ out.length = k ∧ out.length ≤ L.length + 1 ∧ (c = 0 → out.length + l.length ≤ L.length) ∧ l.length ≤ L.length ∧
      rd0 L = rdLoop (many - k) l c out ∧ RAt E wr w.heap.size l c ∧ wr.ownsRow (w.heap.size + 1) 142 3 o k (bcells out) ∧ Below w.heap.size w wr) (fun i _ _ _ _ _ => many - (intOf i).toNat)
  case atStart => exact ⟨0, [], l2, c2, rfl, by omega, rfl, by simp, fun _ => by simp; omega, by omega, HR0.out, R2, by rw [bcells_nil]; exact World.ownsRow_nil _ _ _ _, b2⟩
  case round =>
    clear R2 b2
    obtain ⟨k, out, l, c, rfl, hk, hok, ho1, ho2, hll, hrd, R, hown, bel⟩ := hrel
    have HRD := Lib.hid hrd
    have HOK := Lib.hid hok
    have HO2 := Lib.hid ho2
    obtain ⟨r0, r1⟩ := R.cs
    clear hrd hok ho2
    by_cases hgo : k < many ∧ c = 0
    · obtain ⟨hlt, rfl⟩ := hgo
      have hltI : (k : Int) < many := by omega
      rw [ev_zero] at r1
      obtain ⟨m1, f1⟩ : ∃ x, rnR l 0 = x := ⟨_, rfl⟩
      obtain ⟨d1, f2⟩ : ∃ x, rnC l 0 = x := ⟨_, rfl⟩
      obtain ⟨m2, f3⟩ : ∃ x, rnR m1 d1 = x := ⟨_, rfl⟩
      obtain ⟨d2, f4⟩ : ∃ x, rnC m1 d1 = x := ⟨_, rfl⟩
      obtain ⟨m3, f5⟩ : ∃ x, rnR m2 d2 = x := ⟨_, rfl⟩
      obtain ⟨d3, f6⟩ : ∃ x, rnC m2 d2 = x := ⟨_, rfl⟩
      have hblk := rdBlk_is l m1 m2 d1 d2 f1 f2 f3 f4
      rw [f5, f6] at hblk
      have hstep := HRD.out.trans (rdLoop_step (by omega) l out)
      have hshort := rdBlk_len l
      have hlm1 := rnR_len l 0
      have hlm2 := rnR_len m1 d1
      have hlm3 := rnR_len m2 d2
      rw [f1] at hlm1
      rw [f3] at hlm2
      rw [f5] at hlm3
      have P1 := Lib.hid (fun b (w : World) h => rnum_any E b l 0 w (by omega) h)
      have P2 := Lib.hid (fun b (w : World) h => rnum_any E b m1 d1 w (by omega) h)
      have P3 := Lib.hid (fun b (w : World) h => rnum_any E b m2 d2 w (by omega) h)
      rw [f1, f2] at P1
      rw [f3, f4] at P2
      rw [f5, f6] at P3
      rw [hblk] at hstep hshort
      simp only [] at hstep hshort
      generalize rnN l 0 = x1 at *
      generalize rnN m1 d1 = x2 at *
      generalize rnN m2 d2 = x3 at *
      have HSTEP := Lib.hid hstep
      have HSH := Lib.hid hshort
      have KK := Lib.hid (show k + 1 ≤ many ∧ many - (k + 1) = many - k - 1 by omega)
      have HO3 := Lib.hid (HO2.out rfl)
      clear f1 f2 f3 f4 f5 f6 hblk hstep hshort
      have hsz0 := R.lt
      go_wp2_with fail
      refine (P1.out _ _ R (HT.out.below bel) (HB.out.below bel)).mono ?_
      rintro e v1 ⟨rfl, R1, g1⟩
      have bel1 := bel.grown g1 bel.size (fun k hk => by cases hk; exact Nat.le_refl _)
      have hown1 := owns_other' hown (Nat.lt_succ_self _) g1
      clear R bel g1 hown r0 r1
      go_wp2_with fail
      refine (P2.out _ _ R1 (HT.out.below bel1) (HB.out.below bel1)).mono ?_
      rintro e v2 ⟨rfl, R2, g2⟩
      have bel2 := bel1.grown g2 bel1.size (fun k hk => by cases hk; exact Nat.le_refl _)
      have hown2 := owns_other' hown1 (Nat.lt_succ_self _) g2
      clear R1 bel1 g2 hown1
      go_wp2_with fail
      refine (P3.out _ _ R2 (HT.out.below bel2) (HB.out.below bel2)).mono ?_
      rintro e v3 ⟨rfl, R3, g3⟩
      have bel3 := bel2.grown g3 bel2.size (fun k hk => by cases hk; exact Nat.le_refl _)
      have hown3 := owns_other' hown2 (Nat.lt_succ_self _) g3
      clear R2 bel2 g3 hown2
      obtain ⟨r0, r1⟩ := R3.cs
      have fz := R3.fz 1
      have t1 : v3.cell? ⟨1, 0, none⟩ = some (errv (E 1)) := HT.out.below bel3
      unfold errv at t1
      have hsz3 := R3.lt
      by_cases hd : d3 = 0
      · subst hd
        rw [ev_zero] at r1
        by_cases hx : 4294967295 < x3
        · have hxI : (4294967295 : Int) < x3 := by omega
          have R4 := Lib.hid (R3.set1 1 _ (ev_is E (c := 1) (by decide)).symm)
          unfold errv at R4
          have hs := HSTEP.out
          rw [if_pos ⟨rfl, hx⟩] at hs
          have HS := Lib.hid hs
          clear hs HSTEP HSH
          have OWN := Lib.hid (owns_other' hown3 (Nat.lt_succ_self _) (grownBy_set v3 w.heap.size 1 (.iface 345 (.pointer (some (E 1))))))
          have RR := R4
          have HSZ3 := Lib.hid hsz3
          have BELX := bel3.setCell (p := ⟨w.heap.size, 1, none⟩) (Nat.le_refl _) (.iface 345 (.pointer (some (E 1))))
          have HM1 : Hid (k + 1 ≤ maxLen) := by show _ ≤ _; unfold maxLen; omega
          have HM2 : Hid ((k + 1) * 24 ≤ 140737488355328) := by show _ ≤ _; have := HOK.out; omega
          have HM3 : Hid (w.heap.size + 1 ≤ ((v3.setCell ⟨w.heap.size, 1, none⟩ (.iface 345 (.pointer (some (E 1))))).alloc (.cells #[.int .i64 x1, .int .i64 x2, .int .u32 ((x3 : Int) % 4294967296)] 142)).heap.size) := by show _ ≤ _; have := BELX.size; have := HSZ3.out; simp; omega
          have NEWH : Hid (((v3.setCell ⟨w.heap.size, 1, none⟩ (.iface 345 (.pointer (some (E 1))))).alloc (.cells #[.int .i64 x1, .int .i64 x2, .int .u32 ((x3 : Int) % 4294967296)] 142)).heap[v3.heap.size]? = some (.cells #[.int .i64 x1, .int .i64 x2, .int .u32 ((x3 : Int) % 4294967296)] 142 (0, 0))) := by
            have h := heap_alloc_new (v3.setCell ⟨w.heap.size, 1, none⟩ (.iface 345 (.pointer (some (E 1))))) (.cells #[.int .i64 x1, .int .i64 x2, .int .u32 ((x3 : Int) % 4294967296)] 142)
            have e : (v3.setCell ⟨w.heap.size, 1, none⟩ (.iface 345 (.pointer (some (E 1))))).heap.size = v3.heap.size := by simp
            rw [e] at h
            exact h
          go_wp2_with (at_builtin; refine wpList_append_own _ rfl _ _ 103 rfl (w.heap.size + 1) 142 i0 _ 3 24 Tryz.underlying103 hi hz0 hz1 hz2 rfl (by decide) _ _ _ rfl (OWN.out.alloc _) ⟨v3.heap.size, 0, none⟩ 1 1 [.int .i64 x1, .int .i64 x2, .int .u32 ((x3 : Int) % 4294967296)] rfl rfl (three_news NEWH.out) (fun u hu => by simp at hu; rcases hu with rfl | rfl | rfl <;> rfl) HM1.out HM2.out HM3.out ?_; intro v' v5 hown' hgrow _)
          have bel5 := (BELX.alloc BELX.size (.cells #[.int .i64 x1, .int .i64 x2, .int .u32 ((x3 : Int) % 4294967296)] 142)).grown hgrow (by have := BELX.size; simp; omega) (fun j hj => by have := (OWN.out.lt j hj).1; omega)
          have hne : some w.heap.size ≠ Value.ownBlock u8 := fun e => by have := (OWN.out.lt _ e.symm).1; omega
          have R5 := (RAt.below RR.out (below_alloc' _ (.cells #[.int .i64 x1, .int .i64 x2, .int .u32 ((x3 : Int) % 4294967296)] 142))).grown hgrow hne
          have hcells : bcells (out ++ [⟨x1, x2, x3 % 4294967296⟩]) = bcells out ++ [.int .i64 x1, .int .i64 x2, .int .u32 ((x3 : Int) % 4294967296)] := by
            rw [bcells_append, bcells_one]; simp only [Blk.cells]; simp
          go_roundw
          case rel => exact ⟨k + 1, out ++ [⟨x1, x2, x3 % 4294967296⟩], m3, 1, by go_num, KK.out.1, by simp [HOK.out], by have := HO3.out; simp; omega, (fun h => absurd h (by decide)), by omega, by rw [KK.out.2]; exact HS.out, R5, by rw [hcells]; exact hown', bel5⟩
          case measure => simp [intOf]; omega
        · have hxI : ¬ (4294967295 : Int) < x3 := by omega
          have hs := HSTEP.out
          rw [if_neg (fun h => hx h.2)] at hs
          have hs2 := HSH.out
          rw [if_neg (fun h => hx h.2)] at hs2
          have HS := Lib.hid hs
          have HS2 := Lib.hid (hs2 rfl)
          clear hs hs2 HSTEP HSH
          have OWN := Lib.hid hown3
          have RR := Lib.hid R3
          have HSZ3 := Lib.hid hsz3
          have hx3 : x3 % 4294967296 = x3 := by omega
          have HX3 := Lib.hid hx3
          clear hx3
          have HM1 : Hid (k + 1 ≤ maxLen) := by show _ ≤ _; unfold maxLen; omega
          have HM2 : Hid ((k + 1) * 24 ≤ 140737488355328) := by show _ ≤ _; have := HOK.out; omega
          have HM3 : Hid (w.heap.size + 1 ≤ (v3.alloc (.cells #[.int .i64 x1, .int .i64 x2, .int .u32 (x3 : Int)] 142)).heap.size) := by show _ ≤ _; have := bel3.size; have := HSZ3.out; simp; omega
          go_wp2_with (at_builtin; refine wpList_append_own _ rfl _ _ 103 rfl (w.heap.size + 1) 142 i0 _ 3 24 Tryz.underlying103 hi hz0 hz1 hz2 rfl (by decide) _ _ _ rfl (OWN.out.alloc _) ⟨v3.heap.size, 0, none⟩ 1 1 [.int .i64 x1, .int .i64 x2, .int .u32 (x3 : Int)] rfl rfl (three_news (heap_alloc_new _ _)) (fun u hu => by simp at hu; rcases hu with rfl | rfl | rfl <;> rfl) HM1.out HM2.out HM3.out ?_; intro v' v5 hown' hgrow _)
          have bel5 := (bel3.alloc bel3.size (.cells #[.int .i64 x1, .int .i64 x2, .int .u32 (x3 : Int)] 142)).grown hgrow (by have := bel3.size; simp; omega) (fun j hj => by have := (OWN.out.lt j hj).1; omega)
          have hne : some w.heap.size ≠ Value.ownBlock u8 := fun e => by have := (OWN.out.lt _ e.symm).1; omega
          have R5 := (RAt.below RR.out (below_alloc' _ (.cells #[.int .i64 x1, .int .i64 x2, .int .u32 (x3 : Int)] 142))).grown hgrow hne
          have hcells : bcells (out ++ [⟨x1, x2, x3 % 4294967296⟩]) = bcells out ++ [.int .i64 x1, .int .i64 x2, .int .u32 (x3 : Int)] := by
            rw [bcells_append, bcells_one]; simp only [Blk.cells]; rw [HX3.out]
          go_roundw
          case rel => exact ⟨k + 1, out ++ [⟨x1, x2, x3 % 4294967296⟩], m3, 0, by go_num, KK.out.1, by simp [HOK.out], by have := HO3.out; simp; omega, (fun _ => by have := HS2.out; have := HO3.out; simp; omega), by omega, by rw [KK.out.2]; exact HS.out, R5, by rw [hcells]; exact hown', bel5⟩
          case measure => simp [intOf]; omega
      · have hs := HSTEP.out
        rw [if_neg (fun h => hd h.1)] at hs
        have HS := Lib.hid hs
        have HD := Lib.hid hd
        have hev := ev_is E hd
        rw [hev] at r1
        unfold errv at r1
        clear hs HSTEP HSH hd hev
        have OWN := Lib.hid hown3
        have RR := Lib.hid R3
        have HSZ3 := Lib.hid hsz3
        have HM1 : Hid (k + 1 ≤ maxLen) := by show _ ≤ _; unfold maxLen; omega
        have HM2 : Hid ((k + 1) * 24 ≤ 140737488355328) := by show _ ≤ _; have := HOK.out; omega
        have HM3 : Hid (w.heap.size + 1 ≤ (v3.alloc (.cells #[.int .i64 x1, .int .i64 x2, .int .u32 ((x3 : Int) % 4294967296)] 142)).heap.size) := by show _ ≤ _; have := bel3.size; have := HSZ3.out; simp; omega
        go_wp2_with (at_builtin; refine wpList_append_own _ rfl _ _ 103 rfl (w.heap.size + 1) 142 i0 _ 3 24 Tryz.underlying103 hi hz0 hz1 hz2 rfl (by decide) _ _ _ rfl (OWN.out.alloc _) ⟨v3.heap.size, 0, none⟩ 1 1 [.int .i64 x1, .int .i64 x2, .int .u32 ((x3 : Int) % 4294967296)] rfl rfl (three_news (heap_alloc_new _ _)) (fun u hu => by simp at hu; rcases hu with rfl | rfl | rfl <;> rfl) HM1.out HM2.out HM3.out ?_; intro v' v5 hown' hgrow _)
        have bel5 := (bel3.alloc bel3.size (.cells #[.int .i64 x1, .int .i64 x2, .int .u32 ((x3 : Int) % 4294967296)] 142)).grown hgrow (by have := bel3.size; simp; omega) (fun j hj => by have := (OWN.out.lt j hj).1; omega)
        have hne : some w.heap.size ≠ Value.ownBlock u8 := fun e => by have := (OWN.out.lt _ e.symm).1; omega
        have R5 := (RAt.below RR.out (below_alloc' _ (.cells #[.int .i64 x1, .int .i64 x2, .int .u32 ((x3 : Int) % 4294967296)] 142))).grown hgrow hne
        have hcells : bcells (out ++ [⟨x1, x2, x3 % 4294967296⟩]) = bcells out ++ [.int .i64 x1, .int .i64 x2, .int .u32 ((x3 : Int) % 4294967296)] := by
          rw [bcells_append, bcells_one]; simp only [Blk.cells]; simp
        go_roundw
        case rel => exact ⟨k + 1, out ++ [⟨x1, x2, x3 % 4294967296⟩], m3, d3, by go_num, KK.out.1, by simp [HOK.out], by have := HO3.out; simp; omega, (fun h => absurd h HD.out), by omega, by rw [KK.out.2]; exact HS.out, R5, by rw [hcells]; exact hown', bel5⟩
        case measure => simp [intOf]; omega
    · have hEX : rd0 L = (out, l, c) := by
        rw [HRD.out]
        by_cases hc : c = 0
        · have : many - k = 0 := by omega
          rw [this, rdLoop_end]
        · exact rdLoop_err _ _ hc _
      have HEX := Lib.hid hEX
      clear hEX
      have WAYS : ¬ (k : Int) < many ∨ (k : Int) < many ∧ c ≠ 0 := by omega
      have EN := Lib.hid (rend_any E w.heap.size l c wr R (HT.out.below bel))
      clear hgo
      obtain ⟨A, cap, rfl⟩ := owns_slice hown
      have WAYS2 : ¬ (k : Int) < many ∨ (k : Int) < many ∧ ∃ x, ev E c = .iface 345 x := by
        rcases WAYS with h | ⟨h, hc⟩
        · exact .inl h
        · exact .inr ⟨h, _, ev_pos E hc⟩
      clear WAYS
      rcases WAYS2 with h | ⟨h, x, hx⟩
      all_goals
        try rw [hx] at r1
        try clear hx
        go_wp2_with fail
        refine EN.out.mono ?_
        rintro e v4 ⟨rfl, R4, g4⟩
        have bel4 := bel.grown g4 bel.size (fun k hk => by cases hk; exact Nat.le_refl _)
        have hown4 := owns_other' hown (Nat.lt_succ_self _) g4
        clear bel g4 hown R R4 r0 r1
        by_cases he : rEnd l c = 0
        · have CK := check_any E A k cap out size v4 (SliceIs.ownedK hown4) (HB.out.below bel4) (HFU.out.below bel4)
          have HCK := Lib.hid CK
          clear CK
          by_cases hcode : (chk out size).1 = 0
          · have hr := readSg_ok HEX.out he (by rw [HSZ.out]; exact hcode)
            rw [HSZ.out] at hr
            have HR := Lib.hid hr
            have HC := Lib.hid hcode
            rw [he, ev_zero]
            clear hr he hcode
            go_wp2_with fail
            refine HCK.out.mono ?_
            rintro e v5 ⟨v, rfl, fe, b5⟩
            rw [HC.out] at fe
            rw [fe.zero]
            clear fe
            go_wp2_with fail
            go_ret3
            refine ⟨_, by rw [HR.out, ev_zero]; rfl, ?_, below_trans' bel4 b5⟩
            rw [HR.out]
            simp only []
            rw [HOK.out]
            exact owns_mono (owns_below hown4 b5) (by omega)
          · have hr := readSg_bad HEX.out he (by rw [HSZ.out]; exact hcode)
            rw [HSZ.out] at hr
            have HR := Lib.hid hr
            have HC := Lib.hid hcode
            rw [he, ev_zero]
            clear hr he hcode
            go_wp2_with fail
            refine HCK.out.mono ?_
            rintro e v5 ⟨v, rfl, fe, b5⟩
            have BA := Lib.hid (bare_any E v _ _ v5 fe)
            obtain ⟨t, p, hv⟩ := fe.some HC.out
            rw [hv] at BA ⊢
            clear fe hv
            go_wp2_with fail
            refine BA.out.mono ?_
            rintro e v6 ⟨rfl, rfl⟩
            go_wp2_with fail
            go_ret3
            refine ⟨.slice none 0 0, by rw [HR.out]; rfl, ?_, below_trans' bel4 b5⟩
            rw [HR.out]
            simp only []
            rw [bcells_nil]
            exact World.ownsRow_nil _ _ _ _
        · have HR := Lib.hid (readSg_end HEX.out he)
          have hev := ev_is E he
          rw [hev]
          have HEV := Lib.hid hev
          unfold errv at HEV ⊢
          clear hev he
          go_wp2_with fail
          go_ret3
          refine ⟨.slice none 0 0, by rw [HR.out, HEV.out]; rfl, ?_, bel4⟩
          rw [HR.out]
          simp only []
          rw [bcells_nil]
          exact World.ownsRow_nil _ _ _ _

/-! ### SameBlocks -/
end Go.Proofs.YtppkeophochgiaaGreatDoor
/- Contracts of ops: delta.check, Check, Cost; the statements' longOps, ownOps. -/
namespace Go.Proofs.YtppkeophochgiaaGreatDoor
open Go.RowKit

theorem within_yes (n l : Int) (w : World) (h : l ≤ n ∧ n ≤ 4000) : Calls Tryz.prog 273 #[.int .i64 n, .int .i64 l] w fun e w' => e = .returned (.bool true) ∧ w = w' := by
  obtain ⟨h1, h2⟩ := h
  go_enter Tryz.func273, Tryz.ntmps273
  go_wp2_with fail
  go_ret
  exact ⟨by first | rfl | exact ret_bool (by simp [*]), rfl⟩
theorem within_no (n l : Int) (w : World) (h : ¬ (l ≤ n ∧ n ≤ 4000)) : Calls Tryz.prog 273 #[.int .i64 n, .int .i64 l] w fun e w' => e = .returned (.bool false) ∧ w = w' := by
  have h' : n < l ∨ l ≤ n ∧ 4000 < n := by omega
  clear h
  rcases h' with h1 | ⟨h1, h2⟩
  all_goals
    go_enter Tryz.func273, Tryz.ntmps273
    go_wp2_with fail
    go_ret
    exact ⟨by first | rfl | exact ret_bool (by simp [*]), rfl⟩

def POp.val (o : POp) : Value := .agg #[.string (bs o.kind), .int .i64 o.a, .int .i64 o.n, .string (bs o.data)]
theorem bs_kCopy : bs kCopy = ⟨#[99, 111, 112, 121]⟩ := by rw [kCopy_is]; unfold bs; rfl
theorem bs_kData : bs kData = ⟨#[100, 97, 116, 97]⟩ := by rw [kData_is]; unfold bs; rfl
theorem bsapp (a b : List UInt8) : bs a ++ bs b = bs (a ++ b) := eq_bs (by simp)
theorem tl_eq (a b : List UInt8) (h : a = b) : ((bs a).toList == b) = true := by simp [ByteArray.toList_eq, h]
theorem tl_ne (a b : List UInt8) (h : a ≠ b) : ((bs a).toList == b) = false := by simp [ByteArray.toList_eq, h]
theorem tl_em (a : List UInt8) (h : a = []) : (bs a).toList.isEmpty = true := by simp [ByteArray.toList_eq, h]
theorem tl_nem (a : List UInt8) (h : a ≠ []) : (bs a).toList.isEmpty = false := by simp [ByteArray.toList_eq, h]

set_option maxRecDepth 100000 in
set_option maxHeartbeats 3200000 in
theorem opcheck_any (E : Nat → Addr) (o : POp) (w : World) (h2 : Has E w 2) (h3 : Has E w 3) (h4 : Has E w 4) :
    Calls Tryz.prog 265 #[o.val] w fun e w' => e = .returned (ev E (opC o)) ∧ Below w.heap.size w w' := by
  have z2 : 0 < w.heap.size := World.block_lt_of_cell? w _ h2
  have z3 : 2 < w.heap.size := World.block_lt_of_cell? w _ h3
  have z4 : 3 < w.heap.size := World.block_lt_of_cell? w _ h4
  have c2 : w.cell? ⟨0, 0, none⟩ = some (errv (E 2)) := h2
  have c3 : w.cell? ⟨2, 0, none⟩ = some (errv (E 3)) := h3
  have c4 : w.cell? ⟨3, 0, none⟩ = some (errv (E 4)) := h4
  have HA := Lib.hid (fun o => below_alloc' w o)
  have V0 := Lib.hid (ev_zero E)
  have V2 := Lib.hid (ev_is E (c := 2) (by decide))
  have V3 := Lib.hid (ev_is E (c := 3) (by decide))
  have V4 := Lib.hid (ev_is E (c := 4) (by decide))
  clear h2 h3 h4
  have H1 := Lib.hid (fun h1 h2 => opC_shape (o := o) h1 h2)
  have H2 := Lib.hid (fun h1 h2 h3 => opC_bound (o := o) h1 h2 h3)
  have H3 := Lib.hid (fun h1 h2 h3 => opC_fine (o := o) h1 h2 h3)
  have H4 := Lib.hid (fun h0 h1 h2 => opD_shape (o := o) h0 h1 h2)
  have H5 := Lib.hid (fun h0 h1 h2 h3 => opD_bound (o := o) h0 h1 h2 h3)
  have H6 := Lib.hid (fun h0 h1 h2 h3 => opD_fine (o := o) h0 h1 h2 h3)
  have H7 := Lib.hid (fun h0 h1 => opK (o := o) h0 h1)
  generalize opC o = c at *
  obtain ⟨K, a, n, D⟩ := o
  unfold POp.val
  simp only [] at H1 H2 H3 H4 H5 H6 H7 ⊢
  by_cases hk : K = kCopy
  · have k1 := tl_eq K [99, 111, 112, 121] (by rw [hk, kCopy_is])
    by_cases hd : D = []
    · have d1 := tl_eq D [] hd
      have d2 := tl_em D hd
      by_cases ha : 0 ≤ a ∧ a ≤ 4000
      · have WA := Lib.hid (fun w => within_yes a 0 w ha)
        by_cases hn : 1 ≤ n ∧ n ≤ 4000
        · have WN := Lib.hid (fun w => within_yes n 1 w hn)
          have HC := Lib.hid (H3.out hk hd ⟨ha, hn⟩)
          clear H1 H2 H3 H4 H5 H6 H7 hk hd ha hn
          go_enter Tryz.func265, Tryz.ntmps265
          go_wp2_with fail
          refine (WA.out _).mono ?_
          rintro e w1 ⟨rfl, rfl⟩
          go_wp2_with fail
          refine (WN.out _).mono ?_
          rintro e w1 ⟨rfl, rfl⟩
          go_wp2_with fail
          go_ret
          exact ⟨by rw [HC.out, V0.out]; rfl, HA.out _⟩
        · have WN := Lib.hid (fun w => within_no n 1 w hn)
          have HC := Lib.hid (H2.out hk hd (fun h => hn h.2))
          clear H1 H2 H3 H4 H5 H6 H7 hk hd ha hn
          go_enter Tryz.func265, Tryz.ntmps265
          go_wp2_with fail
          refine (WA.out _).mono ?_
          rintro e w1 ⟨rfl, rfl⟩
          go_wp2_with fail
          refine (WN.out _).mono ?_
          rintro e w1 ⟨rfl, rfl⟩
          go_wp2_with fail
          go_ret
          exact ⟨by rw [HC.out, V2.out]; rfl, HA.out _⟩
      · have WA := Lib.hid (fun w => within_no a 0 w ha)
        have HC := Lib.hid (H2.out hk hd (fun h => ha h.1))
        clear H1 H2 H3 H4 H5 H6 H7 hk hd ha
        go_enter Tryz.func265, Tryz.ntmps265
        go_wp2_with fail
        refine (WA.out _).mono ?_
        rintro e w1 ⟨rfl, rfl⟩
        go_wp2_with fail
        go_ret
        exact ⟨by rw [HC.out, V2.out]; rfl, HA.out _⟩
    · have d1 := tl_ne D [] hd
      have d2 := tl_nem D hd
      have HC := Lib.hid (H1.out hk hd)
      clear H1 H2 H3 H4 H5 H6 H7 hk hd
      go_enter Tryz.func265, Tryz.ntmps265
      go_wp2_with fail
      go_ret
      exact ⟨by rw [HC.out, V3.out]; rfl, HA.out _⟩
  · have k1 := tl_ne K [99, 111, 112, 121] (by rw [← kCopy_is]; exact hk)
    by_cases hk2 : K = kData
    · have k2 := tl_eq K [100, 97, 116, 97] (by rw [hk2, kData_is])
      by_cases ha : a = 0
      · by_cases hn : n = 0
        · by_cases hl : 1 ≤ D.length ∧ D.length ≤ 4000
          · have WN := Lib.hid (fun w => within_yes D.length 1 w (by omega))
            have HC := Lib.hid (H6.out hk hk2 ⟨ha, hn⟩ hl)
            clear H1 H2 H3 H4 H5 H6 H7 hk hk2 hl
            subst ha hn
            go_enter Tryz.func265, Tryz.ntmps265
            go_wp2_with fail
            refine (WN.out _).mono ?_
            rintro e w1 ⟨rfl, rfl⟩
            go_wp2_with fail
            go_ret
            exact ⟨by rw [HC.out, V0.out]; rfl, HA.out _⟩
          · have WN := Lib.hid (fun w => within_no D.length 1 w (by omega))
            have HC := Lib.hid (H5.out hk hk2 ⟨ha, hn⟩ hl)
            clear H1 H2 H3 H4 H5 H6 H7 hk hk2 hl
            subst ha hn
            go_enter Tryz.func265, Tryz.ntmps265
            go_wp2_with fail
            refine (WN.out _).mono ?_
            rintro e w1 ⟨rfl, rfl⟩
            go_wp2_with fail
            go_ret
            exact ⟨by rw [HC.out, V2.out]; rfl, HA.out _⟩
        · have n1 : (n != 0) = true := by simp [hn]
          have HC := Lib.hid (H4.out hk hk2 (.inr hn))
          clear H1 H2 H3 H4 H5 H6 H7 hk hk2 hn
          subst ha
          go_enter Tryz.func265, Tryz.ntmps265
          go_wp2_with fail
          go_ret
          exact ⟨by rw [HC.out, V3.out]; rfl, HA.out _⟩
      · have a1 : (a != 0) = true := by simp [ha]
        have HC := Lib.hid (H4.out hk hk2 (.inl ha))
        clear H1 H2 H3 H4 H5 H6 H7 hk hk2 ha
        go_enter Tryz.func265, Tryz.ntmps265
        go_wp2_with fail
        go_ret
        exact ⟨by rw [HC.out, V3.out]; rfl, HA.out _⟩
    · have k2 := tl_ne K [100, 97, 116, 97] (by rw [← kData_is]; exact hk2)
      have HC := Lib.hid (H7.out hk hk2)
      clear H1 H2 H3 H4 H5 H6 H7 hk hk2
      go_enter Tryz.func265, Tryz.ntmps265
      go_wp2_with fail
      go_ret
      exact ⟨by rw [HC.out, V4.out]; rfl, HA.out _⟩
end Go.Proofs.YtppkeophochgiaaGreatDoor
/- Contracts of ops: delta.Check, Cost; the statements' longOps, ownOps. -/
namespace Go.Proofs.YtppkeophochgiaaGreatDoor
open Go.RowKit

theorem ops_len {w : World} {s0 : Option Addr} {n0 c0 : Nat} {l : List POp} (hl : SliceIs w (.slice s0 n0 c0) 4 (ocells l)) : l.length = n0 ∧ c0 ≤ 9223372036854775807 ∧ n0 ≤ c0 := by
  obtain ⟨s0', n0', c0', e1, e2, e3, e4, _⟩ := hl.get
  cases e1
  rw [ocells_len] at e2
  unfold maxLen at e4
  exact ⟨by omega, by omega, e3⟩
/-- the cells of one op -/
theorem ops_cells {w : World} {s0 : Option Addr} {n0 c0 : Nat} {l : List POp} (hl : SliceIs w (.slice s0 n0 c0) 4 (ocells l)) (k : Nat) (hk : k < l.length) :
    ∃ a, s0 = some a ∧ w.cell? (a.add (k * 4)) = some (.string (bs l[k].kind)) ∧ w.cell? ⟨(a.add (k * 4)).block, (a.add (k * 4)).off + (0 + 1), none⟩ = some (.int .i64 l[k].a) ∧
      w.cell? ⟨(a.add (k * 4)).block, (a.add (k * 4)).off + (1 + 1), none⟩ = some (.int .i64 l[k].n) ∧ w.cell? ⟨(a.add (k * 4)).block, (a.add (k * 4)).off + (2 + 1), none⟩ = some (.string (bs l[k].data)) := by
  obtain ⟨s0', n0', c0', e1, _, _, _, g1⟩ := hl.get
  cases e1
  obtain ⟨g2, g3, g4, g5⟩ := ocells_get l k hk
  obtain ⟨a, rfl, d0⟩ := g1 _ _ g2
  obtain ⟨a', e', d1⟩ := g1 _ _ g3
  cases e'
  obtain ⟨a', e', d2⟩ := g1 _ _ g4
  cases e'
  obtain ⟨a', e', d3⟩ := g1 _ _ g5
  cases e'
  exact ⟨a, rfl, d0, cell_at d1, cell_at d2, cell_at d3⟩

set_option maxRecDepth 100000 in
set_option maxHeartbeats 3200000 in
theorem dcheck_any (E : Nat → Addr) (s0 : Option Addr) (n0 c0 : Nat) (l : List POp) (w : World) (hl : SliceIs w (.slice s0 n0 c0) 4 (ocells l)) (h2 : Has E w 2) (h3 : Has E w 3) (h4 : Has E w 4) :
    Calls Tryz.prog 251 #[.slice s0 n0 c0] w fun e w' => ∃ v, e = .returned v ∧ FErr E w' v (chkOps l).1 (chkOps l).2 ∧ Below w.heap.size w w' := by
  obtain ⟨rfl, hc0, hc1⟩ := ops_len hl
  have HLS := Lib.hid hl
  have HB := Lib.hid h2
  have HS := Lib.hid h3
  have HK := Lib.hid h4
  have HCH := Lib.hid (show chkOps l = chkO (l.drop 0) 0 by unfold chkOps; rfl)
  clear hl h2 h3 h4
  go_enter Tryz.func251, Tryz.ntmps251
  go_wp2_with fail
  go_loopw [8, 3, 4, 5] (fun i _ _ _ wr => ∃ k : Nat, i = .int .i64 k ∧ k ≤ l.length ∧ chkOps l = chkO (l.drop k) k ∧ Below w.heap.size w wr) (fun i _ _ _ _ => l.length - (intOf i).toNat)
  case atStart => exact ⟨0, rfl, by omega, HCH.out, Below.refl _ _⟩
  case round =>
    obtain ⟨k, rfl, hk, hf, bel⟩ := hrel
    have HF := Lib.hid hf
    clear hf
    by_cases hlt : k < l.length
    · have hltI : (k : Int) < l.length := by omega
      obtain ⟨ad, rfl, d0, d1, d2, d3⟩ := ops_cells (HLS.out.below bel) k hlt
      have KK := Lib.hid (show k + 1 ≤ l.length by omega)
      have BAD := Lib.hid (fun hb => HF.out.trans (chkO_bad hlt hb))
      have NEXT := Lib.hid (fun hb => HF.out.trans (chkO_next hlt hb))
      have x1 : (0 : Int) ≤ k := by omega
      have x2 : (k : Int).toNat = k := by omega
      generalize l[k] = o at d0 d1 d2 d3 BAD NEXT
      have belA := bel.alloc bel.size (.cells #[.string (bs o.kind), .int .i64 o.a, .int .i64 o.n, .string (bs o.data)] 106)
      have OC := opcheck_any E o (wr.alloc (.cells #[.string (bs o.kind), .int .i64 o.a, .int .i64 o.n, .string (bs o.data)] 106)) (HB.out.below belA) (HS.out.below belA) (HK.out.below belA)
      unfold POp.val at OC
      by_cases hc : opC o = 0
      · rw [hc, ev_zero] at OC
        have HO := Lib.hid OC
        have N := Lib.hid (NEXT.out hc)
        clear OC hc NEXT BAD
        go_wp2_with fail
        refine HO.out.mono ?_
        rintro e w1 ⟨rfl, b1⟩
        have bel1 := below_trans' belA b1
        clear b1 HO belA bel
        go_wp2_with fail
        go_roundw
        case rel => exact ⟨k + 1, by go_num, KK.out, N.out, bel1⟩
        case measure => simp [intOf]; omega
      · have N := Lib.hid (BAD.out hc)
        rw [ev_is E hc] at OC
        unfold errv at OC
        have HO := Lib.hid OC
        have HC := Lib.hid hc
        clear OC hc NEXT BAD
        go_wp2_with fail
        refine HO.out.mono ?_
        rintro e w1 ⟨rfl, b1⟩
        have bel1 := below_trans' belA b1
        clear b1 HO belA bel
        go_wp2_with fail
        go_ret
        exact ⟨_, rfl, FErr.new E _ _ HC.out _ _ (by simp) _ N.out, bel1.alloc bel1.size _⟩
    · have hltI : ¬ (k : Int) < l.length := by omega
      have hb := Lib.hid (HF.out.trans (chkO_end (by omega : l.length ≤ k)))
      go_wp2_with fail
      go_ret
      exact ⟨_, rfl, by rw [hb.out]; exact FErr.nil E _, bel⟩

theorem costN_le (l : List POp) (k : Nat) : costN (l.take k) ≤ costN l := by
  have := costN_append (l.take k) (l.drop k)
  rw [List.take_append_drop] at this
  omega
set_option maxRecDepth 100000 in
set_option maxHeartbeats 1600000 in
theorem cost_any (s0 : Option Addr) (n0 c0 : Nat) (l : List POp) (w : World) (hl : SliceIs w (.slice s0 n0 c0) 4 (ocells l)) (hcl : costN l ≤ 1000000000) :
    Calls Tryz.prog 113 #[.slice s0 n0 c0] w fun e w' => e = .returned (.int .i64 (costN l)) ∧ Below w.heap.size w w' := by
  obtain ⟨rfl, hc0, hc1⟩ := ops_len hl
  have HLS := Lib.hid hl
  clear hl
  go_enter Tryz.func113, Tryz.ntmps113
  go_wp2_with fail
  go_loopw [8, 3, 5] (fun i n _ wr => ∃ k : Nat, i = .int .i64 k ∧ k ≤ l.length ∧ n = .int .i64 (costN (l.take k)) ∧ Below w.heap.size w wr) (fun i _ _ _ => l.length - (intOf i).toNat)
  case atStart => exact ⟨0, rfl, by omega, by simp [costN_nil], Below.refl _ _⟩
  case round =>
    obtain ⟨k, rfl, hk, rfl, bel⟩ := hrel
    have hle := costN_le l k
    by_cases hlt : k < l.length
    · have hltI : (k : Int) < l.length := by omega
      obtain ⟨ad, rfl, d0, d1, d2, d3⟩ := ops_cells (HLS.out.below bel) k hlt
      have KK := Lib.hid (show k + 1 ≤ l.length by omega)
      have htk := List.take_succ_eq_append_getElem hlt
      have hle2 := costN_le l (k + 1)
      have hst : costN (l.take (k + 1)) = costN (l.take k) + l[k].data.length := by rw [htk, costN_append, costN_one]; rfl
      have x1 : (0 : Int) ≤ k := by omega
      have x2 : (k : Int).toNat = k := by omega
      generalize l[k] = o at d0 d1 d2 d3 hst
      have hle3 : o.data.length ≤ 1000000000 := by omega
      have HST := Lib.hid hst
      have belA := bel.alloc bel.size (.cells #[.string (bs o.kind), .int .i64 o.a, .int .i64 o.n, .string (bs o.data)] 106)
      clear htk hst hle2
      go_wp2_with fail
      go_roundw
      case rel => exact ⟨k + 1, by go_num, KK.out, by rw [HST.out]; go_num, belA⟩
      case measure => simp [intOf]; omega
    · have hltI : ¬ (k : Int) < l.length := by omega
      have htk : l.take k = l := List.take_of_length_le (by omega)
      rw [htk]
      clear htk
      go_wp2_with fail
      go_ret
      exact ⟨rfl, bel⟩

theorem info_op : (Tryz.prog.info? 106).map (fun i => (i.zero, i.size, i.bytes)) = some (some (.agg #[.string ⟨#[]⟩, .int .i64 0, .int .i64 0, .string ⟨#[]⟩]), 4, 48) := by kernel_rfl
end Go.Proofs.YtppkeophochgiaaGreatDoor
