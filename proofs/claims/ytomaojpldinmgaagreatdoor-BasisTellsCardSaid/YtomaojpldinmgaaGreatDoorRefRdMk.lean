/- The document's ReadMark. The text written by program (gen_rreadmark.py). -/
import Derived.Test.YtomaojpldinmgaaGreatDoorRefMark
namespace Go.Proofs.YtomaojpldinmgaaGreatDoor
open Go.RowKit
set_option linter.unusedVariables false

theorem zmk_rval : zmk.rval = .agg #[.string ⟨#[]⟩, .int .i64 0, .int .i64 ((0 : Nat) : Int)] := by unfold zmk PMk.rval; rw [bs_nil]
theorem nmZ_neg {most : Nat} {d : List UInt8} (h : nmZ most d < 0) : nmL most d = none := by
  cases e : nmL most d with
  | none => rfl
  | some n => rw [nmZ_some e] at h; omega
theorem nmZ_nat {most n : Nat} {d : List UInt8} (h : nmZ most d = n) : nmL most d = some n := by
  cases e : nmL most d with
  | none => rw [nmZ_none e] at h; omega
  | some k => rw [nmZ_some e] at h; congr 1; omega
attribute [local irreducible] rdM rdW nmL nmZ nameB splC
set_option maxRecDepth 100000 in
set_option maxHeartbeats 12800000 in
theorem rreadmark_any (s : List UInt8) (w : World) (hs : s.length ≤ 1000000000) :
    Calls Tryz.prog 14 #[.string (bs s)] w fun e w' => e = .returned (.tuple #[(rdM s).1.rval, .int .i64 ((rdM s).2 : Nat)]) ∧ Below w.heap.size w w' := by
  have B0 := Lib.hid (wb_alloc w (.cells #[.string ⟨#[]⟩, .int .i64 0, .int .i64 0] 27))
  have HX := Lib.hid (heap_alloc_new w (.cells #[.string ⟨#[]⟩, .int .i64 0, .int .i64 0] 27))
  have RC := Lib.hid (rcut_any 32 32 rfl s (w.alloc (.cells #[.string ⟨#[]⟩, .int .i64 0, .int .i64 0] 27)) hs)
  have LEN := Lib.hid (fun x hx => (splC_mem (c := 32) s.length s (Nat.le_refl _) x hx).1)
  have RNO := Lib.hid (fun h => rdM_no (s := s) h)
  have ROF := Lib.hid (fun a b c h => rdM_of (s := s) (a := a) (b := b) (c := c) h)
  have T3 := three_or (splC 32 s)
  have W64 : Hid ((splC 32 s).length ≤ 1000000001) := Lib.hid (by
    rw [splC_len]
    have := List.count_le_length (a := (32 : UInt8)) (l := s)
    omega)
  generalize splC 32 s = L at *
  go_enter Tryz.func14, Tryz.ntmps14
  go_wp2_with fail
  refine RC.out.mono ?_
  rintro e w1 ⟨v, rfl, own, b1⟩
  obtain ⟨va, vc, rfl⟩ := owns_slice own
  have HZ := Lib.hid ((b1.block w.heap.size (by simp)).trans HX.out)
  have B1 := Lib.hid (below_trans' B0.out b1)
  have HO := Lib.hid own
  clear own b1 RC HX B0
  rcases T3 with ⟨a, b, c, rfl⟩ | h3
  · have RD0 := Lib.hid (ROF.out a b c rfl)
    have hla := LEN.out a (by simp)
    have hlb := LEN.out b (by simp)
    have hlc := LEN.out c (by simp)
    have NB := Lib.hid (fun w' => numberOf_any (bs b) 10 w' (by decide) (by rw [bs_size]; omega))
    have NC := Lib.hid (fun w' => numberOf_any (bs c) 10 w' (by decide) (by rw [bs_size]; omega))
    rw [bs_list] at NB NC
    have NM := Lib.hid (fun w' => isName_any a w' (by omega))
    obtain ⟨_, _, _, e1, _, _, _, gk⟩ := (SliceIs.ownedK HO.out).get
    cases e1
    obtain ⟨ad, rfl, l0⟩ := gk 0 (.string (bs a)) rfl
    obtain ⟨_, e2, l1⟩ := gk 1 (.string (bs b)) rfl
    cases e2
    obtain ⟨_, e2, l2⟩ := gk 2 (.string (bs c)) rfl
    cases e2
    have L0 : w1.cell? ad = some (.string (bs a)) := l0
    have L1 : w1.cell? ⟨ad.block, ad.off + 1, none⟩ = some (.string (bs b)) := l1
    have L2 : w1.cell? ⟨ad.block, ad.off + 2, none⟩ = some (.string (bs c)) := l2
    have ZB := Lib.hid (fun h => nmZ_neg (most := 10) (d := b) h)
    have ZC := Lib.hid (fun h => nmZ_neg (most := 10) (d := c) h)
    have YB := Lib.hid (fun n h => nmZ_nat (most := 10) (n := n) (d := b) h)
    have YC := Lib.hid (fun n h => nmZ_nat (most := 10) (n := n) (d := c) h)
    clear hla hlb hlc LEN RNO ROF W64 gk
    generalize nmZ 10 b = zb at *
    generalize nmZ 10 c = zc at *
    go_wp2_with fail
    refine (NB.out _).mono ?_
    rintro e w2 ⟨rfl, rfl⟩
    go_wp2_with fail
    refine (NC.out _).mono ?_
    rintro e w3 ⟨rfl, rfl⟩
    clear NB NC
    by_cases hzb : zb < 0
    · have RD := Lib.hid (RD0.out.trans (rdW_no1 (a := a) (c := c) (ZB.out hzb)))
      obtain ⟨⟨q0, q1, q2⟩, fz⟩ := cells3 HZ.out
      have f0 := fz 0
      have f1 := fz 1
      have f2 := fz 2
      have HP := Lib.hid (put3 HZ.out (.string ⟨#[]⟩) (.int .i64 0) (.int .i64 ((0 : Nat) : Int)))
      have BB := Lib.hid (below_put3 B1.out (Nat.le_refl w.heap.size) (.string ⟨#[]⟩) (.int .i64 0) (.int .i64 ((0 : Nat) : Int)))
      clear fz HZ
      go_wp2_with fail
      have bb := BB.out
      have hp := HP.out
      generalize ((w1.setCell ⟨w.heap.size, 0, none⟩ (.string ⟨#[]⟩)).setCell ⟨w.heap.size, 1, none⟩ (.int .i64 0)).setCell ⟨w.heap.size, 2, none⟩ (.int .i64 ((0 : Nat) : Int)) = w9 at hp bb ⊢
      obtain ⟨⟨r0, r1, r2⟩, _⟩ := cells3 hp
      (try simp only [Exit.inBlock, Exit.then])
      refine bodyPost_ret (by simp [results, Tryz.results14, go_sem, r0, r1, r2]; try rfl) rfl ?_
      exact ⟨by rw [RD.out, zmk_rval]; rfl, bb⟩
    · obtain ⟨n, rfl⟩ := Int.eq_ofNat_of_zero_le (show 0 ≤ zb by omega)
      have HB := Lib.hid (YB.out n rfl)
      by_cases hzc : zc < 0
      · have RD := Lib.hid (RD0.out.trans (rdW_no2 (a := a) (b := b) (ZC.out hzc)))
        obtain ⟨⟨q0, q1, q2⟩, fz⟩ := cells3 HZ.out
        have f0 := fz 0
        have f1 := fz 1
        have f2 := fz 2
        have HP := Lib.hid (put3 HZ.out (.string ⟨#[]⟩) (.int .i64 0) (.int .i64 ((0 : Nat) : Int)))
        have BB := Lib.hid (below_put3 B1.out (Nat.le_refl w.heap.size) (.string ⟨#[]⟩) (.int .i64 0) (.int .i64 ((0 : Nat) : Int)))
        clear fz HZ
        go_wp2_with fail
        have bb := BB.out
        have hp := HP.out
        generalize ((w1.setCell ⟨w.heap.size, 0, none⟩ (.string ⟨#[]⟩)).setCell ⟨w.heap.size, 1, none⟩ (.int .i64 0)).setCell ⟨w.heap.size, 2, none⟩ (.int .i64 ((0 : Nat) : Int)) = w9 at hp bb ⊢
        obtain ⟨⟨r0, r1, r2⟩, _⟩ := cells3 hp
        (try simp only [Exit.inBlock, Exit.then])
        refine bodyPost_ret (by simp [results, Tryz.results14, go_sem, r0, r1, r2]; try rfl) rfl ?_
        exact ⟨by rw [RD.out, zmk_rval]; rfl, bb⟩
      · obtain ⟨k, rfl⟩ := Int.eq_ofNat_of_zero_le (show 0 ≤ zc by omega)
        have HC := Lib.hid (YC.out k rfl)
        clear ZB ZC YB YC
        by_cases hnm : nameB a = true
        · rw [hnm] at NM
          have HNM := Lib.hid hnm
          clear hnm
          go_wp2_with fail
          refine (NM.out _).mono ?_
          rintro e w1 ⟨rfl, rfl⟩
          by_cases hn4 : 4000 < n
          · have hI' : (4000 : Int) < n := by omega
            have RD := Lib.hid (RD0.out.trans (rdW_bound HB.out HC.out HNM.out (.inl hn4)))
            obtain ⟨⟨q0, q1, q2⟩, fz⟩ := cells3 HZ.out
            have f0 := fz 0
            have f1 := fz 1
            have f2 := fz 2
            have HP := Lib.hid (put3 HZ.out (.string ⟨#[]⟩) (.int .i64 0) (.int .i64 ((0 : Nat) : Int)))
            have BB := Lib.hid (below_put3 B1.out (Nat.le_refl w.heap.size) (.string ⟨#[]⟩) (.int .i64 0) (.int .i64 ((0 : Nat) : Int)))
            clear fz HZ
            go_wp2_with fail
            have bb := BB.out
            have hp := HP.out
            generalize ((w1.setCell ⟨w.heap.size, 0, none⟩ (.string ⟨#[]⟩)).setCell ⟨w.heap.size, 1, none⟩ (.int .i64 0)).setCell ⟨w.heap.size, 2, none⟩ (.int .i64 ((0 : Nat) : Int)) = w9 at hp bb ⊢
            obtain ⟨⟨r0, r1, r2⟩, _⟩ := cells3 hp
            (try simp only [Exit.inBlock, Exit.then])
            refine bodyPost_ret (by simp [results, Tryz.results14, go_sem, r0, r1, r2]; try rfl) rfl ?_
            exact ⟨by rw [RD.out, zmk_rval]; rfl, bb⟩
          · have hI' : ¬ (4000 : Int) < n := by omega
            by_cases hk4 : 4294967295 < k
            · have hJ' : (4294967295 : Int) < k := by omega
              have RD := Lib.hid (RD0.out.trans (rdW_bound HB.out HC.out HNM.out (.inr hk4)))
              obtain ⟨⟨q0, q1, q2⟩, fz⟩ := cells3 HZ.out
              have f0 := fz 0
              have f1 := fz 1
              have f2 := fz 2
              have HP := Lib.hid (put3 HZ.out (.string ⟨#[]⟩) (.int .i64 0) (.int .i64 ((0 : Nat) : Int)))
              have BB := Lib.hid (below_put3 B1.out (Nat.le_refl w.heap.size) (.string ⟨#[]⟩) (.int .i64 0) (.int .i64 ((0 : Nat) : Int)))
              clear fz HZ
              go_wp2_with fail
              have bb := BB.out
              have hp := HP.out
              generalize ((w1.setCell ⟨w.heap.size, 0, none⟩ (.string ⟨#[]⟩)).setCell ⟨w.heap.size, 1, none⟩ (.int .i64 0)).setCell ⟨w.heap.size, 2, none⟩ (.int .i64 ((0 : Nat) : Int)) = w9 at hp bb ⊢
              obtain ⟨⟨r0, r1, r2⟩, _⟩ := cells3 hp
              (try simp only [Exit.inBlock, Exit.then])
              refine bodyPost_ret (by simp [results, Tryz.results14, go_sem, r0, r1, r2]; try rfl) rfl ?_
              exact ⟨by rw [RD.out, zmk_rval]; rfl, bb⟩
            · have hJ' : ¬ (4294967295 : Int) < k := by omega
              have RD := Lib.hid (RD0.out.trans (rdW_ok HB.out HC.out HNM.out (by omega)))
              obtain ⟨⟨q0, q1, q2⟩, fz⟩ := cells3 HZ.out
              have f0 := fz 0
              have f1 := fz 1
              have f2 := fz 2
              have HP := Lib.hid (put3 HZ.out (.string (bs a)) (.int .i64 (n : Int)) (.int .i64 (k : Int)))
              have BB := Lib.hid (below_put3 B1.out (Nat.le_refl w.heap.size) (.string (bs a)) (.int .i64 (n : Int)) (.int .i64 (k : Int)))
              clear fz HZ
              go_wp2_with fail
              have bb := BB.out
              have hp := HP.out
              generalize ((w1.setCell ⟨w.heap.size, 0, none⟩ (.string (bs a))).setCell ⟨w.heap.size, 1, none⟩ (.int .i64 (n : Int))).setCell ⟨w.heap.size, 2, none⟩ (.int .i64 (k : Int)) = w9 at hp bb ⊢
              obtain ⟨⟨r0, r1, r2⟩, _⟩ := cells3 hp
              (try simp only [Exit.inBlock, Exit.then])
              refine bodyPost_ret (by simp [results, Tryz.results14, go_sem, r0, r1, r2]; try rfl) rfl ?_
              exact ⟨by rw [RD.out]; rfl, bb⟩
        · have hnm' : nameB a = false := by simpa using hnm
          rw [hnm'] at NM
          have RD := Lib.hid (RD0.out.trans (rdW_name HB.out HC.out hnm'))
          clear hnm hnm'
          go_wp2_with fail
          refine (NM.out _).mono ?_
          rintro e w1 ⟨rfl, rfl⟩
          obtain ⟨⟨q0, q1, q2⟩, fz⟩ := cells3 HZ.out
          have f0 := fz 0
          have f1 := fz 1
          have f2 := fz 2
          have HP := Lib.hid (put3 HZ.out (.string ⟨#[]⟩) (.int .i64 0) (.int .i64 ((0 : Nat) : Int)))
          have BB := Lib.hid (below_put3 B1.out (Nat.le_refl w.heap.size) (.string ⟨#[]⟩) (.int .i64 0) (.int .i64 ((0 : Nat) : Int)))
          clear fz HZ
          go_wp2_with fail
          have bb := BB.out
          have hp := HP.out
          generalize ((w1.setCell ⟨w.heap.size, 0, none⟩ (.string ⟨#[]⟩)).setCell ⟨w.heap.size, 1, none⟩ (.int .i64 0)).setCell ⟨w.heap.size, 2, none⟩ (.int .i64 ((0 : Nat) : Int)) = w9 at hp bb ⊢
          obtain ⟨⟨r0, r1, r2⟩, _⟩ := cells3 hp
          (try simp only [Exit.inBlock, Exit.then])
          refine bodyPost_ret (by simp [results, Tryz.results14, go_sem, r0, r1, r2]; try rfl) rfl ?_
          exact ⟨by rw [RD.out, zmk_rval]; rfl, bb⟩
  · have RD := Lib.hid (RNO.out h3)
    have h3I : ((L.length : Int) != 3) = true := by rw [bne_iff_ne]; omega
    have w64 := W64.out
    clear LEN RNO ROF W64
    obtain ⟨⟨q0, q1, q2⟩, fz⟩ := cells3 HZ.out
    have f0 := fz 0
    have f1 := fz 1
    have f2 := fz 2
    have HP := Lib.hid (put3 HZ.out (.string ⟨#[]⟩) (.int .i64 0) (.int .i64 ((0 : Nat) : Int)))
    have BB := Lib.hid (below_put3 B1.out (Nat.le_refl w.heap.size) (.string ⟨#[]⟩) (.int .i64 0) (.int .i64 ((0 : Nat) : Int)))
    clear fz HZ
    go_wp2_with fail
    have bb := BB.out
    have hp := HP.out
    generalize ((w1.setCell ⟨w.heap.size, 0, none⟩ (.string ⟨#[]⟩)).setCell ⟨w.heap.size, 1, none⟩ (.int .i64 0)).setCell ⟨w.heap.size, 2, none⟩ (.int .i64 ((0 : Nat) : Int)) = w9 at hp bb ⊢
    obtain ⟨⟨r0, r1, r2⟩, _⟩ := cells3 hp
    (try simp only [Exit.inBlock, Exit.then])
    refine bodyPost_ret (by simp [results, Tryz.results14, go_sem, r0, r1, r2]; try rfl) rfl ?_
    exact ⟨by rw [RD.out, zmk_rval]; rfl, bb⟩
end Go.Proofs.YtomaojpldinmgaaGreatDoor
