/- Contracts of strings.Split at one byte, and of basis.Read. The text written by program (gen_basread.py). -/
import Derived.Test.YtomaojpldinmgaaGreatDoorBasText
import Derived.Test.YtomaojpldinmgaaGreatDoorGateNum
namespace Go.Proofs.YtomaojpldinmgaaGreatDoor
open Go.RowKit
set_option linter.unusedVariables false

theorem ssplit_any (E : Nat → Addr) (c : UInt8) (sep : ByteArray) (hsep : sep = bs [c]) (l : List UInt8) (w : World) (hl : l.length ≤ 1000000000) (hw : LibW E w) :
    Calls Tryz.prog 53 #[.string (bs l), .string sep] w fun e w' => e = .returned (.slice (some ⟨w.heap.size, 0, none⟩) (splC c l).length (splC c l).length) ∧ w' = w.alloc (.cells ((splC c l).map fun x => Value.string (bs x)).toArray 9) := by
  subst hsep
  obtain ⟨m, hm⟩ := hw.ml
  obtain ⟨e1, e2⟩ := spl_is c l
  refine (Tryz.strings_Split (bs l) (bs [c]) m w (by rw [bs_size]; omega) hm (by rw [bs_size]; simp)).mono ?_
  rintro e w' ⟨rfl, rfl⟩
  rw [e1, e2, List.map_map]
  exact ⟨rfl, rfl⟩
theorem cells3 {w : World} {b : Nat} {u0 u1 u2 : Value} {t : TypeId} (h : w.heap[b]? = some (.cells #[u0, u1, u2] t (0, 0))) : (w.cell? ⟨b, 0, none⟩ = some u0 ∧ w.cell? ⟨b, 1, none⟩ = some u1 ∧ w.cell? ⟨b, 2, none⟩ = some u2) ∧ ∀ k, w.frozen? ⟨b, k, none⟩ = false :=
  ⟨mk_cs h, fun k => by simp [World.frozen?, h]⟩
theorem put3 {w : World} {b : Nat} {u0 u1 u2 : Value} {t : TypeId} (h : w.heap[b]? = some (.cells #[u0, u1, u2] t (0, 0))) (x y z : Value) : (((w.setCell ⟨b, 0, none⟩ x).setCell ⟨b, 1, none⟩ y).setCell ⟨b, 2, none⟩ z).heap[b]? = some (.cells #[x, y, z] t (0, 0)) := by
  have h0 := set_at (k := 0) (u := x) h
  have h1 := set_at (k := 1) (u := y) h0
  simpa using set_at (k := 2) (u := z) h1
theorem below_put3 {w W : World} {b : Nat} (h : Below w.heap.size w W) (hb : w.heap.size ≤ b) (x y z : Value) : Below w.heap.size w (((W.setCell ⟨b, 0, none⟩ x).setCell ⟨b, 1, none⟩ y).setCell ⟨b, 2, none⟩ z) :=
  ((h.setCell (p := ⟨b, 0, none⟩) hb x).setCell (p := ⟨b, 1, none⟩) hb y).setCell (p := ⟨b, 2, none⟩) hb z
theorem zmk_val : zmk.val = .agg #[.string ⟨#[]⟩, .int .i64 0, .int .u32 ((0 : Nat) : Int)] := by unfold zmk PMk.val; rw [bs_nil]
theorem three_or {α : Type} (L : List α) : (∃ a b c, L = [a, b, c]) ∨ L.length ≠ 3 := by
  match L with
  | [] => right; simp
  | [_] => right; simp
  | [_, _] => right; simp
  | [a, b, c] => exact .inl ⟨a, b, c, rfl⟩
  | _ :: _ :: _ :: _ :: r => right; simp
theorem rdM_no {s : List UInt8} (h : (splC 32 s).length ≠ 3) : rdM s = (zmk, 1) := by
  unfold rdM
  split
  · rename_i e; rw [e] at h; simp at h
  · rfl
theorem rdM_of {s a b c : List UInt8} (h : splC 32 s = [a, b, c]) : rdM s = rdW a b c := by unfold rdM; rw [h]
theorem rdW_no1 {a b c : List UInt8} (h : nmL 10 b = none) : rdW a b c = (zmk, 1) := by unfold rdW; rw [h]
theorem rdW_no2 {a b c : List UInt8} (h : nmL 10 c = none) : rdW a b c = (zmk, 1) := by unfold rdW; rw [h]; cases nmL 10 b <;> rfl
theorem rdW_name {a b c : List UInt8} {n k : Nat} (h : nmL 10 b = some n) (h2 : nmL 10 c = some k) (h3 : nameB a = false) : rdW a b c = (zmk, 5) := by unfold rdW; rw [h, h2]; simp only; rw [if_pos h3]
theorem rdW_bound {a b c : List UInt8} {n k : Nat} (h : nmL 10 b = some n) (h2 : nmL 10 c = some k) (h3 : nameB a = true) (h4 : 4000 < n ∨ 4294967295 < k) : rdW a b c = (zmk, 2) := by unfold rdW; rw [h, h2]; simp only; rw [if_neg (by simp [h3]), if_pos h4]
theorem rdW_ok {a b c : List UInt8} {n k : Nat} (h : nmL 10 b = some n) (h2 : nmL 10 c = some k) (h3 : nameB a = true) (h4 : ¬ (4000 < n ∨ 4294967295 < k)) : rdW a b c = (⟨a, n, k⟩, 0) := by unfold rdW; rw [h, h2]; simp only; rw [if_neg (by simp [h3]), if_neg h4]
attribute [local irreducible] rdM rdW nmL nameB splC
set_option maxRecDepth 100000 in
set_option maxHeartbeats 12800000 in
theorem bread_any (E : Nat → Addr) (s : List UInt8) (w : World) (hw : LibW E w) (hs : s.length ≤ 1000000000) (h1 : Has E w 1) (h2 : Has E w 2) (h5 : Has E w 5) :
    Calls Tryz.prog 13 #[.string (bs s)] w fun e w' => e = .returned (.tuple #[(rdM s).1.val, ev E (rdM s).2]) ∧ Below w.heap.size w w' := by
  have B0 := Lib.hid (wb_alloc w (.cells #[.string ⟨#[]⟩, .int .i64 0, .int .u32 0] 30))
  have HX := Lib.hid (heap_alloc_new w (.cells #[.string ⟨#[]⟩, .int .i64 0, .int .u32 0] 30))
  have SP := ssplit_any E 32 ⟨#[32]⟩ (by unfold bs; rfl) s _ hs (hw.below B0.out)
  have LW := Lib.hid (fun (w' : World) (b : Below w.heap.size w w') => hw.below b)
  have E1 := Lib.hid (fun (w' : World) (b : Below w.heap.size w w') => show w'.cell? ⟨2, 0, none⟩ = some (errv (E 1)) from h1.below b)
  have E2 := Lib.hid (fun (w' : World) (b : Below w.heap.size w w') => show w'.cell? ⟨1, 0, none⟩ = some (errv (E 2)) from h2.below b)
  have E5 := Lib.hid (fun (w' : World) (b : Below w.heap.size w w') => show w'.cell? ⟨0, 0, none⟩ = some (errv (E 5)) from h5.below b)
  have LEN := Lib.hid (fun x hx => (splC_mem (c := 32) s.length s (Nat.le_refl _) x hx).1)
  have z1 : 2 < w.heap.size := World.block_lt_of_cell? w _ h1
  have z2 : 1 < w.heap.size := World.block_lt_of_cell? w _ h2
  have z5 : 0 < w.heap.size := World.block_lt_of_cell? w _ h5
  clear h1 h2 h5 hw
  rcases three_or (splC 32 s) with ⟨a, b, c, h3⟩ | h3
  · have RD0 := Lib.hid (rdM_of h3)
    rw [h3] at SP LEN
    simp only [List.map_cons, List.map_nil, List.length_cons, List.length_nil] at SP
    have SP := Lib.hid SP
    have hla := LEN.out a (by simp)
    have hlb := LEN.out b (by simp)
    have hlc := LEN.out c (by simp)
    have NB := Lib.hid (fun (w' : World) (h : LibW E w') => number_any E 10 b w' h (by decide) (by omega))
    have NC := Lib.hid (fun (w' : World) (h : LibW E w') => number_any E 10 c w' h (by decide) (by omega))
    have NM := Lib.hid (fun w' => flname_any a w' (by unfold maxLen; omega))
    clear h3 LEN hla hlb hlc
    go_enter Tryz.func13, Tryz.ntmps13
    go_wp2_with fail
    refine SP.out.mono ?_
    rintro e w1 ⟨rfl, rfl⟩
    have HZ1 := Lib.hid (((wb_alloc (w.alloc (.cells #[.string ⟨#[]⟩, .int .i64 0, .int .u32 0] 30)) (.cells #[.string (bs a), .string (bs b), .string (bs c)] 9)).block w.heap.size (by simp)).trans HX.out)
    have HL1 := Lib.hid (heap_alloc_new (w.alloc (.cells #[.string ⟨#[]⟩, .int .i64 0, .int .u32 0] 30)) (.cells #[.string (bs a), .string (bs b), .string (bs c)] 9))
    have BL1 := Lib.hid (below_trans' B0.out (wb_alloc (w.alloc (.cells #[.string ⟨#[]⟩, .int .i64 0, .int .u32 0] 30)) (.cells #[.string (bs a), .string (bs b), .string (bs c)] 9)))
    have esz : (w.alloc (.cells #[.string ⟨#[]⟩, .int .i64 0, .int .u32 0] 30)).heap.size = w.heap.size + 1 := by simp
    rw [esz] at HL1
    simp only [esz]
    clear esz SP
    generalize hW1 : (w.alloc (.cells #[.string ⟨#[]⟩, .int .i64 0, .int .u32 0] 30)).alloc (.cells #[.string (bs a), .string (bs b), .string (bs c)] 9) = W1 at *
    have LC := Lib.hid (fun (w' : World) (bb : Below W1.heap.size W1 w') => mk_cs ((bb.block _ (lt_of_block HL1.out)).trans HL1.out))
    have HZC := Lib.hid (fun (w' : World) (bb : Below W1.heap.size W1 w') => (bb.block _ (lt_of_block HZ1.out)).trans HZ1.out)
    obtain ⟨l0, l1, l2⟩ := LC.out _ (Below.refl _ _)
    clear hW1
    go_wp2_with fail
    refine (NB.out _ (LW.out _ BL1.out)).mono ?_
    rintro e w2 ⟨⟨vb, rfl, hvb⟩, b2⟩
    obtain ⟨m0, m1, m2⟩ := LC.out _ b2
    have B2 := Lib.hid b2
    clear b2 l0 l1 l2 NB
    go_wp2_with fail
    refine (NC.out _ (LW.out _ (below_trans' BL1.out B2.out))).mono ?_
    rintro e W ⟨⟨vc, rfl, hvc⟩, b3⟩
    have B3 := Lib.hid (below_trans' B2.out b3)
    obtain ⟨n0, n1, n2⟩ := LC.out _ B3.out
    have BW := Lib.hid (below_trans' BL1.out B3.out)
    clear b3 m0 m1 m2 NC B2 n1 n2
    cases hb : nmL 10 b with
    | none =>
      have RD := Lib.hid (RD0.out.trans (rdW_no1 (a := a) (c := c) hb))
      have hz := HZC.out _ B3.out
      have bel := BW.out
      have ce := E1.out _ BW.out
      simp only [Option.isSome_none]
      generalize (nmL 10 c).isSome = bc
      clear hvb hvc hb E1 E2 E5 LW NM n0 LC
      obtain ⟨⟨q0, q1, q2⟩, fz⟩ := cells3 hz
      have f0 := fz 0
      have f1 := fz 1
      have f2 := fz 2
      have HP := Lib.hid (put3 hz ((.string ⟨#[]⟩)) ((.int .i64 0)) ((.int .u32 ((0 : Nat) : Int))))
      have BB := Lib.hid (below_put3 bel (Nat.le_refl w.heap.size) ((.string ⟨#[]⟩)) ((.int .i64 0)) ((.int .u32 ((0 : Nat) : Int))))
      clear fz hz bel
      go_wp2_with fail
      go_region_with (fail)
      all_goals
        go_wp2_with fail
        have bb := BB.out.drew
        have hp := (show ((((W.setCell ⟨w.heap.size, 0, none⟩ (.string ⟨#[]⟩)).setCell ⟨w.heap.size, 1, none⟩ (.int .i64 0)).setCell ⟨w.heap.size, 2, none⟩ (.int .u32 ((0 : Nat) : Int))).drew).heap[w.heap.size]? = _ from HP.out)
        generalize (((W.setCell ⟨w.heap.size, 0, none⟩ (.string ⟨#[]⟩)).setCell ⟨w.heap.size, 1, none⟩ (.int .i64 0)).setCell ⟨w.heap.size, 2, none⟩ (.int .u32 ((0 : Nat) : Int))).drew = w9 at hp bb ⊢
        obtain ⟨⟨r0, r1, r2⟩, _⟩ := cells3 hp
        (try simp only [Exit.inBlock, Exit.then])
        refine bodyPost_ret (by simp [results, Tryz.results13, go_sem, r0, r1, r2]; try rfl) rfl ?_
        exact ⟨by rw [RD.out, zmk_val, ev_is E (by decide)]; rfl, bb⟩
    | some n =>
      obtain rfl := hvb n hb
      simp only [Option.isSome_some]
      cases hc : nmL 10 c with
      | none =>
        have RD := Lib.hid (RD0.out.trans (rdW_no2 (a := a) (b := b) hc))
        have hz := HZC.out _ B3.out
        have bel := BW.out
        have ce := E1.out _ BW.out
        simp only [Option.isSome_none]
        clear hvb hvc hb hc E1 E2 E5 LW NM n0 LC
        obtain ⟨⟨q0, q1, q2⟩, fz⟩ := cells3 hz
        have f0 := fz 0
        have f1 := fz 1
        have f2 := fz 2
        have HP := Lib.hid (put3 hz ((.string ⟨#[]⟩)) ((.int .i64 0)) ((.int .u32 ((0 : Nat) : Int))))
        have BB := Lib.hid (below_put3 bel (Nat.le_refl w.heap.size) ((.string ⟨#[]⟩)) ((.int .i64 0)) ((.int .u32 ((0 : Nat) : Int))))
        clear fz hz bel
        go_wp2_with fail
        go_region_with (fail)
        all_goals
          go_wp2_with fail
          have bb := BB.out.drew
          have hp := (show ((((W.setCell ⟨w.heap.size, 0, none⟩ (.string ⟨#[]⟩)).setCell ⟨w.heap.size, 1, none⟩ (.int .i64 0)).setCell ⟨w.heap.size, 2, none⟩ (.int .u32 ((0 : Nat) : Int))).drew).heap[w.heap.size]? = _ from HP.out)
          generalize (((W.setCell ⟨w.heap.size, 0, none⟩ (.string ⟨#[]⟩)).setCell ⟨w.heap.size, 1, none⟩ (.int .i64 0)).setCell ⟨w.heap.size, 2, none⟩ (.int .u32 ((0 : Nat) : Int))).drew = w9 at hp bb ⊢
          obtain ⟨⟨r0, r1, r2⟩, _⟩ := cells3 hp
          (try simp only [Exit.inBlock, Exit.then])
          refine bodyPost_ret (by simp [results, Tryz.results13, go_sem, r0, r1, r2]; try rfl) rfl ?_
          exact ⟨by rw [RD.out, zmk_val, ev_is E (by decide)]; rfl, bb⟩
      | some k =>
        obtain rfl := hvc k hc
        simp only [Option.isSome_some]
        have LC2 := Lib.hid (fun (w' : World) (bb : Below W.heap.size W w') => (LC.out _ (below_trans' B3.out bb)).1)
        have HZC2 := Lib.hid (fun (w' : World) (bb : Below W.heap.size W w') => HZC.out _ (below_trans' B3.out bb))
        have BW2 := Lib.hid (fun (w' : World) (bb : Below W.heap.size W w') => below_trans' BW.out bb)
        have HB := Lib.hid hb
        have HC := Lib.hid hc
        clear hvb hvc hb hc LC HZC E1
        by_cases hnm : nameB a = true
        · rw [hnm] at NM
          have HNM := Lib.hid hnm
          clear hnm
          go_wp2_with fail
          refine (NM.out _).mono ?_
          rintro e w4 ⟨rfl, b4⟩
          have p0 := LC2.out _ b4
          have bel := BW2.out _ b4
          have hz := HZC2.out _ b4
          have ce := E2.out _ bel
          clear b4 n0 LC2 BW2 HZC2 NM BW B3 E2 E5 LW
          by_cases hbd : 4000 < n ∨ 4294967295 < k
          · have RD := Lib.hid (RD0.out.trans (rdW_bound HB.out HC.out HNM.out hbd))
            have hor : 4000 < n ∨ ¬ 4000 < n ∧ 4294967295 < k := by omega
            clear hbd
            rcases hor with hI | ⟨hI, hJ⟩
            · have hI' : (4000 : Int) < n := by omega
              obtain ⟨⟨q0, q1, q2⟩, fz⟩ := cells3 hz
              have f0 := fz 0
              have f1 := fz 1
              have f2 := fz 2
              have HP := Lib.hid (put3 hz ((.string ⟨#[]⟩)) ((.int .i64 0)) ((.int .u32 ((0 : Nat) : Int))))
              have BB := Lib.hid (below_put3 bel (Nat.le_refl w.heap.size) ((.string ⟨#[]⟩)) ((.int .i64 0)) ((.int .u32 ((0 : Nat) : Int))))
              clear fz hz bel
              go_wp2_with fail
              go_region_with (fail)
              all_goals
                go_wp2_with fail
                have bb := BB.out.drew
                have hp := (show ((((w4.setCell ⟨w.heap.size, 0, none⟩ (.string ⟨#[]⟩)).setCell ⟨w.heap.size, 1, none⟩ (.int .i64 0)).setCell ⟨w.heap.size, 2, none⟩ (.int .u32 ((0 : Nat) : Int))).drew).heap[w.heap.size]? = _ from HP.out)
                generalize (((w4.setCell ⟨w.heap.size, 0, none⟩ (.string ⟨#[]⟩)).setCell ⟨w.heap.size, 1, none⟩ (.int .i64 0)).setCell ⟨w.heap.size, 2, none⟩ (.int .u32 ((0 : Nat) : Int))).drew = w9 at hp bb ⊢
                obtain ⟨⟨r0, r1, r2⟩, _⟩ := cells3 hp
                (try simp only [Exit.inBlock, Exit.then])
                refine bodyPost_ret (by simp [results, Tryz.results13, go_sem, r0, r1, r2]; try rfl) rfl ?_
                exact ⟨by rw [RD.out, zmk_val, ev_is E (by decide)]; rfl, bb⟩
            · have hI' : ¬ (4000 : Int) < n := by omega
              have hJ' : (4294967295 : Int) < k := by omega
              obtain ⟨⟨q0, q1, q2⟩, fz⟩ := cells3 hz
              have f0 := fz 0
              have f1 := fz 1
              have f2 := fz 2
              have HP := Lib.hid (put3 hz ((.string ⟨#[]⟩)) ((.int .i64 0)) ((.int .u32 ((0 : Nat) : Int))))
              have BB := Lib.hid (below_put3 bel (Nat.le_refl w.heap.size) ((.string ⟨#[]⟩)) ((.int .i64 0)) ((.int .u32 ((0 : Nat) : Int))))
              clear fz hz bel
              go_wp2_with fail
              go_region_with (fail)
              all_goals
                go_wp2_with fail
                have bb := BB.out.drew
                have hp := (show ((((w4.setCell ⟨w.heap.size, 0, none⟩ (.string ⟨#[]⟩)).setCell ⟨w.heap.size, 1, none⟩ (.int .i64 0)).setCell ⟨w.heap.size, 2, none⟩ (.int .u32 ((0 : Nat) : Int))).drew).heap[w.heap.size]? = _ from HP.out)
                generalize (((w4.setCell ⟨w.heap.size, 0, none⟩ (.string ⟨#[]⟩)).setCell ⟨w.heap.size, 1, none⟩ (.int .i64 0)).setCell ⟨w.heap.size, 2, none⟩ (.int .u32 ((0 : Nat) : Int))).drew = w9 at hp bb ⊢
                obtain ⟨⟨r0, r1, r2⟩, _⟩ := cells3 hp
                (try simp only [Exit.inBlock, Exit.then])
                refine bodyPost_ret (by simp [results, Tryz.results13, go_sem, r0, r1, r2]; try rfl) rfl ?_
                exact ⟨by rw [RD.out, zmk_val, ev_is E (by decide)]; rfl, bb⟩
          · have RD := Lib.hid (RD0.out.trans (rdW_ok HB.out HC.out HNM.out hbd))
            have hI' : ¬ (4000 : Int) < n := by omega
            have hJ' : ¬ (4294967295 : Int) < k := by omega
            have hcv : IntKind.u32.wrap (k : Int) = k := IntWalk.u32_in _ (by omega)
            clear hbd ce
            obtain ⟨⟨q0, q1, q2⟩, fz⟩ := cells3 hz
            have f0 := fz 0
            have f1 := fz 1
            have f2 := fz 2
            have HP := Lib.hid (put3 hz ((.string (bs a))) ((.int .i64 n)) ((.int .u32 k)))
            have BB := Lib.hid (below_put3 bel (Nat.le_refl w.heap.size) ((.string (bs a))) ((.int .i64 n)) ((.int .u32 k)))
            clear fz hz bel
            go_wp2_with fail
            have bb := BB.out
            have hp := (show ((((w4.setCell ⟨w.heap.size, 0, none⟩ (.string (bs a))).setCell ⟨w.heap.size, 1, none⟩ (.int .i64 n)).setCell ⟨w.heap.size, 2, none⟩ (.int .u32 k))).heap[w.heap.size]? = _ from HP.out)
            generalize (((w4.setCell ⟨w.heap.size, 0, none⟩ (.string (bs a))).setCell ⟨w.heap.size, 1, none⟩ (.int .i64 n)).setCell ⟨w.heap.size, 2, none⟩ (.int .u32 k)) = w9 at hp bb ⊢
            obtain ⟨⟨r0, r1, r2⟩, _⟩ := cells3 hp
            (try simp only [Exit.inBlock, Exit.then])
            refine bodyPost_ret (by simp [results, Tryz.results13, go_sem, r0, r1, r2]; try rfl) rfl ?_
            exact ⟨by rw [RD.out, ev_zero]; rfl, bb⟩
        · have hnm' : nameB a = false := by simpa using hnm
          rw [hnm'] at NM
          have RD := Lib.hid (RD0.out.trans (rdW_name HB.out HC.out hnm'))
          clear hnm hnm'
          go_wp2_with fail
          refine (NM.out _).mono ?_
          rintro e w4 ⟨rfl, b4⟩
          have bel := BW2.out _ b4
          have hz := HZC2.out _ b4
          have ce := E5.out _ bel
          clear b4 n0 LC2 BW2 HZC2 NM BW B3 E2 E5 LW
          obtain ⟨⟨q0, q1, q2⟩, fz⟩ := cells3 hz
          have f0 := fz 0
          have f1 := fz 1
          have f2 := fz 2
          have HP := Lib.hid (put3 hz ((.string ⟨#[]⟩)) ((.int .i64 0)) ((.int .u32 ((0 : Nat) : Int))))
          have BB := Lib.hid (below_put3 bel (Nat.le_refl w.heap.size) ((.string ⟨#[]⟩)) ((.int .i64 0)) ((.int .u32 ((0 : Nat) : Int))))
          clear fz hz bel
          go_wp2_with fail
          go_region_with (fail)
          all_goals
            go_wp2_with fail
            have bb := BB.out.drew
            have hp := (show ((((w4.setCell ⟨w.heap.size, 0, none⟩ (.string ⟨#[]⟩)).setCell ⟨w.heap.size, 1, none⟩ (.int .i64 0)).setCell ⟨w.heap.size, 2, none⟩ (.int .u32 ((0 : Nat) : Int))).drew).heap[w.heap.size]? = _ from HP.out)
            generalize (((w4.setCell ⟨w.heap.size, 0, none⟩ (.string ⟨#[]⟩)).setCell ⟨w.heap.size, 1, none⟩ (.int .i64 0)).setCell ⟨w.heap.size, 2, none⟩ (.int .u32 ((0 : Nat) : Int))).drew = w9 at hp bb ⊢
            obtain ⟨⟨r0, r1, r2⟩, _⟩ := cells3 hp
            (try simp only [Exit.inBlock, Exit.then])
            refine bodyPost_ret (by simp [results, Tryz.results13, go_sem, r0, r1, r2]; try rfl) rfl ?_
            exact ⟨by rw [RD.out, zmk_val, ev_is E (by decide)]; rfl, bb⟩
  · have RD := Lib.hid (rdM_no h3)
    have SP := Lib.hid SP
    have hn : (((splC 32 s).length : Int) != 3) = true := by simp; omega
    have hn2 : (((splC 32 s).length : Int) == 3) = false := by simp; omega
    clear h3 LEN
    have HZ1 := Lib.hid (fun (o : Obj) => ((wb_alloc (w.alloc (.cells #[.string ⟨#[]⟩, .int .i64 0, .int .u32 0] 30)) o).block w.heap.size (by simp)).trans HX.out)
    have BL1 := Lib.hid (fun (o : Obj) => below_trans' B0.out (wb_alloc (w.alloc (.cells #[.string ⟨#[]⟩, .int .i64 0, .int .u32 0] 30)) o))
    generalize splC 32 s = L at *
    go_enter Tryz.func13, Tryz.ntmps13
    go_wp2_with fail
    refine SP.out.mono ?_
    rintro e W ⟨rfl, hW⟩
    have hz : W.heap[w.heap.size]? = some (.cells #[.string ⟨#[]⟩, .int .i64 0, .int .u32 0] 30 (0, 0)) := by rw [hW]; exact HZ1.out _
    have bel : Below w.heap.size w W := by rw [hW]; exact BL1.out _
    have ce := E1.out _ bel
    clear hW SP HZ1 BL1 E1 E2 E5 LW
    obtain ⟨⟨q0, q1, q2⟩, fz⟩ := cells3 hz
    have f0 := fz 0
    have f1 := fz 1
    have f2 := fz 2
    have HP := Lib.hid (put3 hz ((.string ⟨#[]⟩)) ((.int .i64 0)) ((.int .u32 ((0 : Nat) : Int))))
    have BB := Lib.hid (below_put3 bel (Nat.le_refl w.heap.size) ((.string ⟨#[]⟩)) ((.int .i64 0)) ((.int .u32 ((0 : Nat) : Int))))
    clear fz hz bel
    go_wp2_with fail
    go_region_with (fail)
    all_goals
      go_wp2_with fail
      have bb := BB.out.drew
      have hp := (show ((((W.setCell ⟨w.heap.size, 0, none⟩ (.string ⟨#[]⟩)).setCell ⟨w.heap.size, 1, none⟩ (.int .i64 0)).setCell ⟨w.heap.size, 2, none⟩ (.int .u32 ((0 : Nat) : Int))).drew).heap[w.heap.size]? = _ from HP.out)
      generalize (((W.setCell ⟨w.heap.size, 0, none⟩ (.string ⟨#[]⟩)).setCell ⟨w.heap.size, 1, none⟩ (.int .i64 0)).setCell ⟨w.heap.size, 2, none⟩ (.int .u32 ((0 : Nat) : Int))).drew = w9 at hp bb ⊢
      obtain ⟨⟨r0, r1, r2⟩, _⟩ := cells3 hp
      (try simp only [Exit.inBlock, Exit.then])
      refine bodyPost_ret (by simp [results, Tryz.results13, go_sem, r0, r1, r2]; try rfl) rfl ?_
      exact ⟨by rw [RD.out, zmk_val, ev_is E (by decide)]; rfl, bb⟩
end Go.Proofs.YtomaojpldinmgaaGreatDoor
