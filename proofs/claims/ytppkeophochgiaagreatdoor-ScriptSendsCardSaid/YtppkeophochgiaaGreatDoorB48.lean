/- Texts of one proof, one behind the other: BasRead, BasFar, ScrFar. -/
import Derived.Test.YtppkeophochgiaaGreatDoorB47
import Derived.Test.YtppkeophochgiaaGreatDoorB24
import Derived.Test.YtppkeophochgiaaGreatDoorB08
import Derived.Test.YtppkeophochgiaaGreatDoorB45
import Derived.Test.YtppkeophochgiaaGreatDoorB36
/- Contracts of strings.Split at one byte, and of basis.Read. The text written by program (gen_basread.py). -/
namespace Go.Proofs.YtppkeophochgiaaGreatDoor
open Go.RowKit
set_option linter.unusedVariables false

theorem ssplit_any (E : Nat → Addr) (c : UInt8) (sep : ByteArray) (hsep : sep = bs [c]) (l : List UInt8) (w : World) (hl : l.length ≤ 1000000000) (hw : LibW E w) :
    Calls Tryz.prog 50 #[.string (bs l), .string sep] w fun e w' => e = .returned (.slice (some ⟨w.heap.size, 0, none⟩) (splC c l).length (splC c l).length) ∧ w' = w.alloc (.cells ((splC c l).map fun x => Value.string (bs x)).toArray 9) := by
  subst hsep
  obtain ⟨m, hm⟩ := hw.ml
  obtain ⟨e1, e2⟩ := spl_is c l
  refine (Tryz.strings_Split (bs l) (bs [c]) m w (by rw [bs_size]; omega) hm (by rw [bs_size]; simp)).mono ?_
  rintro e w' ⟨rfl, rfl⟩
  rw [e1, e2, List.map_map]
  exact ⟨rfl, rfl⟩
theorem cells3 {w : World} {b : Nat} {u0 u1 u2 : Value} {t : TypeId} (h : w.heap[b]? = some (.cells #[u0, u1, u2] t (0, 0))) : (w.cell? ⟨b, 0, none⟩ = some u0 ∧ w.cell? ⟨b, 1, none⟩ = some u1 ∧ w.cell? ⟨b, 2, none⟩ = some u2) ∧ ∀ k, w.frozen? ⟨b, k, none⟩ = false :=
  ⟨mk_cs h, fun k => by simp [World.frozen?, h]⟩
theorem put3 {w : World} {b : Nat} {u0 u1 u2 : Value} {t : TypeId} (h : w.heap[b]? = some (.cells #[u0, u1, u2] t (0, 0))) (x y z : Value) : (((w.setCell ⟨b, 0, none⟩ x).setCell ⟨b, 1, none⟩ y).setCell ⟨b, 2, none⟩ z).heap[b]? = some (.cells #[x, y, z] t (0, 0)) := by
  have h0 := set_at (k := 0) (u := x) h
  have h1 := set_at (k := 1) (u := y) h0
  simpa using set_at (k := 2) (u := z) h1
theorem below_put3 {w W : World} {b : Nat} (h : Below w.heap.size w W) (hb : w.heap.size ≤ b) (x y z : Value) : Below w.heap.size w (((W.setCell ⟨b, 0, none⟩ x).setCell ⟨b, 1, none⟩ y).setCell ⟨b, 2, none⟩ z) :=
  ((h.setCell (p := ⟨b, 0, none⟩) hb x).setCell (p := ⟨b, 1, none⟩) hb y).setCell (p := ⟨b, 2, none⟩) hb z
theorem zmk_val : zmk.val = .agg #[.string ⟨#[]⟩, .int .i64 0, .int .u32 ((0 : Nat) : Int)] := by unfold zmk PMk.val; rw [bs_nil]
theorem three_or {α : Type} (L : List α) : (∃ a b c, L = [a, b, c]) ∨ L.length ≠ 3 := by
  match L with
  | [] => right; simp
  | [_] => right; simp
  | [_, _] => right; simp
  | [a, b, c] => exact .inl ⟨a, b, c, rfl⟩
  | _ :: _ :: _ :: _ :: r => right; simp
theorem rdM_no {s : List UInt8} (h : (splC 32 s).length ≠ 3) : rdM s = (zmk, 1) := by
  unfold rdM
  split
  · rename_i e; rw [e] at h; simp at h
  · rfl
theorem rdM_of {s a b c : List UInt8} (h : splC 32 s = [a, b, c]) : rdM s = rdW a b c := by unfold rdM; rw [h]
theorem rdW_no1 {a b c : List UInt8} (h : nmL 10 b = none) : rdW a b c = (zmk, 1) := by unfold rdW; rw [h]
theorem rdW_no2 {a b c : List UInt8} (h : nmL 10 c = none) : rdW a b c = (zmk, 1) := by unfold rdW; rw [h]; cases nmL 10 b <;> rfl
theorem rdW_name {a b c : List UInt8} {n k : Nat} (h : nmL 10 b = some n) (h2 : nmL 10 c = some k) (h3 : nameB a = false) : rdW a b c = (zmk, 5) := by unfold rdW; rw [h, h2]; simp only; rw [if_pos h3]
theorem rdW_bound {a b c : List UInt8} {n k : Nat} (h : nmL 10 b = some n) (h2 : nmL 10 c = some k) (h3 : nameB a = true) (h4 : 4000 < n ∨ 4294967295 < k) : rdW a b c = (zmk, 2) := by unfold rdW; rw [h, h2]; simp only; rw [if_neg (by simp [h3]), if_pos h4]
theorem rdW_ok {a b c : List UInt8} {n k : Nat} (h : nmL 10 b = some n) (h2 : nmL 10 c = some k) (h3 : nameB a = true) (h4 : ¬ (4000 < n ∨ 4294967295 < k)) : rdW a b c = (⟨a, n, k⟩, 0) := by unfold rdW; rw [h, h2]; simp only; rw [if_neg (by simp [h3]), if_neg h4]
attribute [local irreducible] rdM rdW nmL nameB splC
set_option maxRecDepth 100000 in
set_option maxHeartbeats 12800000 in
theorem bread_any (E : Nat → Addr) (s : List UInt8) (w : World) (hw : LibW E w) (hs : s.length ≤ 1000000000) (h1 : Has E w 1) (h2 : Has E w 2) (h5 : Has E w 5) :
    Calls Tryz.prog 125 #[.string (bs s)] w fun e w' => e = .returned (.tuple #[(rdM s).1.val, ev E (rdM s).2]) ∧ Below w.heap.size w w' := by
  have B0 := Lib.hid (wb_alloc w (.cells #[.string ⟨#[]⟩, .int .i64 0, .int .u32 0] 202))
  have HX := Lib.hid (heap_alloc_new w (.cells #[.string ⟨#[]⟩, .int .i64 0, .int .u32 0] 202))
  have SP := ssplit_any E 32 ⟨#[32]⟩ (by unfold bs; rfl) s _ hs (hw.below B0.out)
  have LW := Lib.hid (fun (w' : World) (b : Below w.heap.size w w') => hw.below b)
  have E1 := Lib.hid (fun (w' : World) (b : Below w.heap.size w w') => show w'.cell? ⟨1, 0, none⟩ = some (errv (E 1)) from h1.below b)
  have E2 := Lib.hid (fun (w' : World) (b : Below w.heap.size w w') => show w'.cell? ⟨0, 0, none⟩ = some (errv (E 2)) from h2.below b)
  have E5 := Lib.hid (fun (w' : World) (b : Below w.heap.size w w') => show w'.cell? ⟨4, 0, none⟩ = some (errv (E 5)) from h5.below b)
  have LEN := Lib.hid (fun x hx => (splC_mem (c := 32) s.length s (Nat.le_refl _) x hx).1)
  have z1 : 1 < w.heap.size := World.block_lt_of_cell? w _ h1
  have z2 : 0 < w.heap.size := World.block_lt_of_cell? w _ h2
  have z5 : 4 < w.heap.size := World.block_lt_of_cell? w _ h5
  clear h1 h2 h5 hw
  rcases three_or (splC 32 s) with ⟨a, b, c, h3⟩ | h3
  · have RD0 := Lib.hid (rdM_of h3)
    rw [h3] at SP LEN
    simp only [List.map_cons, List.map_nil, List.length_cons, List.length_nil] at SP
    have SP := Lib.hid SP
    have hla := LEN.out a (by simp)
    have hlb := LEN.out b (by simp)
    have hlc := LEN.out c (by simp)
    have NB := Lib.hid (fun (w' : World) (h : LibW E w') => number_any E 10 b w' h (by decide) (by omega))
    have NC := Lib.hid (fun (w' : World) (h : LibW E w') => number_any E 10 c w' h (by decide) (by omega))
    have NM := Lib.hid (fun w' => flname_any a w' (by unfold maxLen; omega))
    clear h3 LEN hla hlb hlc
    go_enter Tryz.func125, Tryz.ntmps125
    go_wp2_with fail
    refine SP.out.mono ?_
    rintro e w1 ⟨rfl, rfl⟩
    have HZ1 := Lib.hid (((wb_alloc (w.alloc (.cells #[.string ⟨#[]⟩, .int .i64 0, .int .u32 0] 202)) (.cells #[.string (bs a), .string (bs b), .string (bs c)] 9)).block w.heap.size (by simp)).trans HX.out)
    have HL1 := Lib.hid (heap_alloc_new (w.alloc (.cells #[.string ⟨#[]⟩, .int .i64 0, .int .u32 0] 202)) (.cells #[.string (bs a), .string (bs b), .string (bs c)] 9))
    have BL1 := Lib.hid (below_trans' B0.out (wb_alloc (w.alloc (.cells #[.string ⟨#[]⟩, .int .i64 0, .int .u32 0] 202)) (.cells #[.string (bs a), .string (bs b), .string (bs c)] 9)))
    have esz : (w.alloc (.cells #[.string ⟨#[]⟩, .int .i64 0, .int .u32 0] 202)).heap.size = w.heap.size + 1 := by simp
    rw [esz] at HL1
    simp only [esz]
    clear esz SP
    generalize hW1 : (w.alloc (.cells #[.string ⟨#[]⟩, .int .i64 0, .int .u32 0] 202)).alloc (.cells #[.string (bs a), .string (bs b), .string (bs c)] 9) = W1 at *
    have LC := Lib.hid (fun (w' : World) (bb : Below W1.heap.size W1 w') => mk_cs ((bb.block _ (lt_of_block HL1.out)).trans HL1.out))
    have HZC := Lib.hid (fun (w' : World) (bb : Below W1.heap.size W1 w') => (bb.block _ (lt_of_block HZ1.out)).trans HZ1.out)
    obtain ⟨l0, l1, l2⟩ := LC.out _ (Below.refl _ _)
    clear hW1
    go_wp2_with fail
    refine (NB.out _ (LW.out _ BL1.out)).mono ?_
    rintro e w2 ⟨⟨vb, rfl, hvb⟩, b2⟩
    obtain ⟨m0, m1, m2⟩ := LC.out _ b2
    have B2 := Lib.hid b2
    clear b2 l0 l1 l2 NB
    go_wp2_with fail
    refine (NC.out _ (LW.out _ (below_trans' BL1.out B2.out))).mono ?_
    rintro e W ⟨⟨vc, rfl, hvc⟩, b3⟩
    have B3 := Lib.hid (below_trans' B2.out b3)
    obtain ⟨n0, n1, n2⟩ := LC.out _ B3.out
    have BW := Lib.hid (below_trans' BL1.out B3.out)
    clear b3 m0 m1 m2 NC B2 n1 n2
    cases hb : nmL 10 b with
    | none =>
      have RD := Lib.hid (RD0.out.trans (rdW_no1 (a := a) (c := c) hb))
      have hz := HZC.out _ B3.out
      have bel := BW.out
      have ce := E1.out _ BW.out
      simp only [Option.isSome_none]
      generalize (nmL 10 c).isSome = bc
      clear hvb hvc hb E1 E2 E5 LW NM n0 LC
      obtain ⟨⟨q0, q1, q2⟩, fz⟩ := cells3 hz
      have f0 := fz 0
      have f1 := fz 1
      have f2 := fz 2
      have HP := Lib.hid (put3 hz ((.string ⟨#[]⟩)) ((.int .i64 0)) ((.int .u32 ((0 : Nat) : Int))))
      have BB := Lib.hid (below_put3 bel (Nat.le_refl w.heap.size) ((.string ⟨#[]⟩)) ((.int .i64 0)) ((.int .u32 ((0 : Nat) : Int))))
      clear fz hz bel
      go_wp2_with fail
      go_region_with (fail)
      all_goals
        go_wp2_with fail
        have bb := BB.out.drew
        have hp := (show ((((W.setCell ⟨w.heap.size, 0, none⟩ (.string ⟨#[]⟩)).setCell ⟨w.heap.size, 1, none⟩ (.int .i64 0)).setCell ⟨w.heap.size, 2, none⟩ (.int .u32 ((0 : Nat) : Int))).drew).heap[w.heap.size]? = _ from HP.out)
        generalize (((W.setCell ⟨w.heap.size, 0, none⟩ (.string ⟨#[]⟩)).setCell ⟨w.heap.size, 1, none⟩ (.int .i64 0)).setCell ⟨w.heap.size, 2, none⟩ (.int .u32 ((0 : Nat) : Int))).drew = w9 at hp bb ⊢
        obtain ⟨⟨r0, r1, r2⟩, _⟩ := cells3 hp
        (try simp only [Exit.inBlock, Exit.then])
        refine bodyPost_ret (by simp [results, Tryz.results125, go_sem, r0, r1, r2]; try rfl) rfl ?_
        exact ⟨by rw [RD.out, zmk_val, ev_is E (by decide)]; rfl, bb⟩
    | some n =>
      obtain rfl := hvb n hb
      simp only [Option.isSome_some]
      cases hc : nmL 10 c with
      | none =>
        have RD := Lib.hid (RD0.out.trans (rdW_no2 (a := a) (b := b) hc))
        have hz := HZC.out _ B3.out
        have bel := BW.out
        have ce := E1.out _ BW.out
        simp only [Option.isSome_none]
        clear hvb hvc hb hc E1 E2 E5 LW NM n0 LC
        obtain ⟨⟨q0, q1, q2⟩, fz⟩ := cells3 hz
        have f0 := fz 0
        have f1 := fz 1
        have f2 := fz 2
        have HP := Lib.hid (put3 hz ((.string ⟨#[]⟩)) ((.int .i64 0)) ((.int .u32 ((0 : Nat) : Int))))
        have BB := Lib.hid (below_put3 bel (Nat.le_refl w.heap.size) ((.string ⟨#[]⟩)) ((.int .i64 0)) ((.int .u32 ((0 : Nat) : Int))))
        clear fz hz bel
        go_wp2_with fail
        go_region_with (fail)
        all_goals
          go_wp2_with fail
          have bb := BB.out.drew
          have hp := (show ((((W.setCell ⟨w.heap.size, 0, none⟩ (.string ⟨#[]⟩)).setCell ⟨w.heap.size, 1, none⟩ (.int .i64 0)).setCell ⟨w.heap.size, 2, none⟩ (.int .u32 ((0 : Nat) : Int))).drew).heap[w.heap.size]? = _ from HP.out)
          generalize (((W.setCell ⟨w.heap.size, 0, none⟩ (.string ⟨#[]⟩)).setCell ⟨w.heap.size, 1, none⟩ (.int .i64 0)).setCell ⟨w.heap.size, 2, none⟩ (.int .u32 ((0 : Nat) : Int))).drew = w9 at hp bb ⊢
          obtain ⟨⟨r0, r1, r2⟩, _⟩ := cells3 hp
          (try simp only [Exit.inBlock, Exit.then])
          refine bodyPost_ret (by simp [results, Tryz.results125, go_sem, r0, r1, r2]; try rfl) rfl ?_
          exact ⟨by rw [RD.out, zmk_val, ev_is E (by decide)]; rfl, bb⟩
      | some k =>
        obtain rfl := hvc k hc
        simp only [Option.isSome_some]
        have LC2 := Lib.hid (fun (w' : World) (bb : Below W.heap.size W w') => (LC.out _ (below_trans' B3.out bb)).1)
        have HZC2 := Lib.hid (fun (w' : World) (bb : Below W.heap.size W w') => HZC.out _ (below_trans' B3.out bb))
        have BW2 := Lib.hid (fun (w' : World) (bb : Below W.heap.size W w') => below_trans' BW.out bb)
        have HB := Lib.hid hb
        have HC := Lib.hid hc
        clear hvb hvc hb hc LC HZC E1
        by_cases hnm : nameB a = true
        · rw [hnm] at NM
          have HNM := Lib.hid hnm
          clear hnm
          go_wp2_with fail
          refine (NM.out _).mono ?_
          rintro e w4 ⟨rfl, b4⟩
          have p0 := LC2.out _ b4
          have bel := BW2.out _ b4
          have hz := HZC2.out _ b4
          have ce := E2.out _ bel
          clear b4 n0 LC2 BW2 HZC2 NM BW B3 E2 E5 LW
          by_cases hbd : 4000 < n ∨ 4294967295 < k
          · have RD := Lib.hid (RD0.out.trans (rdW_bound HB.out HC.out HNM.out hbd))
            have hor : 4000 < n ∨ ¬ 4000 < n ∧ 4294967295 < k := by omega
            clear hbd
            rcases hor with hI | ⟨hI, hJ⟩
            · have hI' : (4000 : Int) < n := by omega
              obtain ⟨⟨q0, q1, q2⟩, fz⟩ := cells3 hz
              have f0 := fz 0
              have f1 := fz 1
              have f2 := fz 2
              have HP := Lib.hid (put3 hz ((.string ⟨#[]⟩)) ((.int .i64 0)) ((.int .u32 ((0 : Nat) : Int))))
              have BB := Lib.hid (below_put3 bel (Nat.le_refl w.heap.size) ((.string ⟨#[]⟩)) ((.int .i64 0)) ((.int .u32 ((0 : Nat) : Int))))
              clear fz hz bel
              go_wp2_with fail
              go_region_with (fail)
              all_goals
                go_wp2_with fail
                have bb := BB.out.drew
                have hp := (show ((((w4.setCell ⟨w.heap.size, 0, none⟩ (.string ⟨#[]⟩)).setCell ⟨w.heap.size, 1, none⟩ (.int .i64 0)).setCell ⟨w.heap.size, 2, none⟩ (.int .u32 ((0 : Nat) : Int))).drew).heap[w.heap.size]? = _ from HP.out)
                generalize (((w4.setCell ⟨w.heap.size, 0, none⟩ (.string ⟨#[]⟩)).setCell ⟨w.heap.size, 1, none⟩ (.int .i64 0)).setCell ⟨w.heap.size, 2, none⟩ (.int .u32 ((0 : Nat) : Int))).drew = w9 at hp bb ⊢
                obtain ⟨⟨r0, r1, r2⟩, _⟩ := cells3 hp
                (try simp only [Exit.inBlock, Exit.then])
                refine bodyPost_ret (by simp [results, Tryz.results125, go_sem, r0, r1, r2]; try rfl) rfl ?_
                exact ⟨by rw [RD.out, zmk_val, ev_is E (by decide)]; rfl, bb⟩
            · have hI' : ¬ (4000 : Int) < n := by omega
              have hJ' : (4294967295 : Int) < k := by omega
              obtain ⟨⟨q0, q1, q2⟩, fz⟩ := cells3 hz
              have f0 := fz 0
              have f1 := fz 1
              have f2 := fz 2
              have HP := Lib.hid (put3 hz ((.string ⟨#[]⟩)) ((.int .i64 0)) ((.int .u32 ((0 : Nat) : Int))))
              have BB := Lib.hid (below_put3 bel (Nat.le_refl w.heap.size) ((.string ⟨#[]⟩)) ((.int .i64 0)) ((.int .u32 ((0 : Nat) : Int))))
              clear fz hz bel
              go_wp2_with fail
              go_region_with (fail)
              all_goals
                go_wp2_with fail
                have bb := BB.out.drew
                have hp := (show ((((w4.setCell ⟨w.heap.size, 0, none⟩ (.string ⟨#[]⟩)).setCell ⟨w.heap.size, 1, none⟩ (.int .i64 0)).setCell ⟨w.heap.size, 2, none⟩ (.int .u32 ((0 : Nat) : Int))).drew).heap[w.heap.size]? = _ from HP.out)
                generalize (((w4.setCell ⟨w.heap.size, 0, none⟩ (.string ⟨#[]⟩)).setCell ⟨w.heap.size, 1, none⟩ (.int .i64 0)).setCell ⟨w.heap.size, 2, none⟩ (.int .u32 ((0 : Nat) : Int))).drew = w9 at hp bb ⊢
                obtain ⟨⟨r0, r1, r2⟩, _⟩ := cells3 hp
                (try simp only [Exit.inBlock, Exit.then])
                refine bodyPost_ret (by simp [results, Tryz.results125, go_sem, r0, r1, r2]; try rfl) rfl ?_
                exact ⟨by rw [RD.out, zmk_val, ev_is E (by decide)]; rfl, bb⟩
          · have RD := Lib.hid (RD0.out.trans (rdW_ok HB.out HC.out HNM.out hbd))
            have hI' : ¬ (4000 : Int) < n := by omega
            have hJ' : ¬ (4294967295 : Int) < k := by omega
            have hcv : IntKind.u32.wrap (k : Int) = k := IntWalk.u32_in _ (by omega)
            clear hbd ce
            obtain ⟨⟨q0, q1, q2⟩, fz⟩ := cells3 hz
            have f0 := fz 0
            have f1 := fz 1
            have f2 := fz 2
            have HP := Lib.hid (put3 hz ((.string (bs a))) ((.int .i64 n)) ((.int .u32 k)))
            have BB := Lib.hid (below_put3 bel (Nat.le_refl w.heap.size) ((.string (bs a))) ((.int .i64 n)) ((.int .u32 k)))
            clear fz hz bel
            go_wp2_with fail
            have bb := BB.out
            have hp := (show ((((w4.setCell ⟨w.heap.size, 0, none⟩ (.string (bs a))).setCell ⟨w.heap.size, 1, none⟩ (.int .i64 n)).setCell ⟨w.heap.size, 2, none⟩ (.int .u32 k))).heap[w.heap.size]? = _ from HP.out)
            generalize (((w4.setCell ⟨w.heap.size, 0, none⟩ (.string (bs a))).setCell ⟨w.heap.size, 1, none⟩ (.int .i64 n)).setCell ⟨w.heap.size, 2, none⟩ (.int .u32 k)) = w9 at hp bb ⊢
            obtain ⟨⟨r0, r1, r2⟩, _⟩ := cells3 hp
            (try simp only [Exit.inBlock, Exit.then])
            refine bodyPost_ret (by simp [results, Tryz.results125, go_sem, r0, r1, r2]; try rfl) rfl ?_
            exact ⟨by rw [RD.out, ev_zero]; rfl, bb⟩
        · have hnm' : nameB a = false := by simpa using hnm
          rw [hnm'] at NM
          have RD := Lib.hid (RD0.out.trans (rdW_name HB.out HC.out hnm'))
          clear hnm hnm'
          go_wp2_with fail
          refine (NM.out _).mono ?_
          rintro e w4 ⟨rfl, b4⟩
          have bel := BW2.out _ b4
          have hz := HZC2.out _ b4
          have ce := E5.out _ bel
          clear b4 n0 LC2 BW2 HZC2 NM BW B3 E2 E5 LW
          obtain ⟨⟨q0, q1, q2⟩, fz⟩ := cells3 hz
          have f0 := fz 0
          have f1 := fz 1
          have f2 := fz 2
          have HP := Lib.hid (put3 hz ((.string ⟨#[]⟩)) ((.int .i64 0)) ((.int .u32 ((0 : Nat) : Int))))
          have BB := Lib.hid (below_put3 bel (Nat.le_refl w.heap.size) ((.string ⟨#[]⟩)) ((.int .i64 0)) ((.int .u32 ((0 : Nat) : Int))))
          clear fz hz bel
          go_wp2_with fail
          go_region_with (fail)
          all_goals
            go_wp2_with fail
            have bb := BB.out.drew
            have hp := (show ((((w4.setCell ⟨w.heap.size, 0, none⟩ (.string ⟨#[]⟩)).setCell ⟨w.heap.size, 1, none⟩ (.int .i64 0)).setCell ⟨w.heap.size, 2, none⟩ (.int .u32 ((0 : Nat) : Int))).drew).heap[w.heap.size]? = _ from HP.out)
            generalize (((w4.setCell ⟨w.heap.size, 0, none⟩ (.string ⟨#[]⟩)).setCell ⟨w.heap.size, 1, none⟩ (.int .i64 0)).setCell ⟨w.heap.size, 2, none⟩ (.int .u32 ((0 : Nat) : Int))).drew = w9 at hp bb ⊢
            obtain ⟨⟨r0, r1, r2⟩, _⟩ := cells3 hp
            (try simp only [Exit.inBlock, Exit.then])
            refine bodyPost_ret (by simp [results, Tryz.results125, go_sem, r0, r1, r2]; try rfl) rfl ?_
            exact ⟨by rw [RD.out, zmk_val, ev_is E (by decide)]; rfl, bb⟩
  · have RD := Lib.hid (rdM_no h3)
    have SP := Lib.hid SP
    have hn : (((splC 32 s).length : Int) != 3) = true := by simp; omega
    have hn2 : (((splC 32 s).length : Int) == 3) = false := by simp; omega
    clear h3 LEN
    have HZ1 := Lib.hid (fun (o : Obj) => ((wb_alloc (w.alloc (.cells #[.string ⟨#[]⟩, .int .i64 0, .int .u32 0] 202)) o).block w.heap.size (by simp)).trans HX.out)
    have BL1 := Lib.hid (fun (o : Obj) => below_trans' B0.out (wb_alloc (w.alloc (.cells #[.string ⟨#[]⟩, .int .i64 0, .int .u32 0] 202)) o))
    generalize splC 32 s = L at *
    go_enter Tryz.func125, Tryz.ntmps125
    go_wp2_with fail
    refine SP.out.mono ?_
    rintro e W ⟨rfl, hW⟩
    have hz : W.heap[w.heap.size]? = some (.cells #[.string ⟨#[]⟩, .int .i64 0, .int .u32 0] 202 (0, 0)) := by rw [hW]; exact HZ1.out _
    have bel : Below w.heap.size w W := by rw [hW]; exact BL1.out _
    have ce := E1.out _ bel
    clear hW SP HZ1 BL1 E1 E2 E5 LW
    obtain ⟨⟨q0, q1, q2⟩, fz⟩ := cells3 hz
    have f0 := fz 0
    have f1 := fz 1
    have f2 := fz 2
    have HP := Lib.hid (put3 hz ((.string ⟨#[]⟩)) ((.int .i64 0)) ((.int .u32 ((0 : Nat) : Int))))
    have BB := Lib.hid (below_put3 bel (Nat.le_refl w.heap.size) ((.string ⟨#[]⟩)) ((.int .i64 0)) ((.int .u32 ((0 : Nat) : Int))))
    clear fz hz bel
    go_wp2_with fail
    go_region_with (fail)
    all_goals
      go_wp2_with fail
      have bb := BB.out.drew
      have hp := (show ((((W.setCell ⟨w.heap.size, 0, none⟩ (.string ⟨#[]⟩)).setCell ⟨w.heap.size, 1, none⟩ (.int .i64 0)).setCell ⟨w.heap.size, 2, none⟩ (.int .u32 ((0 : Nat) : Int))).drew).heap[w.heap.size]? = _ from HP.out)
      generalize (((W.setCell ⟨w.heap.size, 0, none⟩ (.string ⟨#[]⟩)).setCell ⟨w.heap.size, 1, none⟩ (.int .i64 0)).setCell ⟨w.heap.size, 2, none⟩ (.int .u32 ((0 : Nat) : Int))).drew = w9 at hp bb ⊢
      obtain ⟨⟨r0, r1, r2⟩, _⟩ := cells3 hp
      (try simp only [Exit.inBlock, Exit.then])
      refine bodyPost_ret (by simp [results, Tryz.results125, go_sem, r0, r1, r2]; try rfl) rfl ?_
      exact ⟨by rw [RD.out, zmk_val, ev_is E (by decide)]; rfl, bb⟩
end Go.Proofs.YtppkeophochgiaaGreatDoor
/- Contracts of basis.Far, Marks. -/
namespace Go.Proofs.YtppkeophochgiaaGreatDoor
open Go.RowKit
set_option linter.unusedVariables false

def farS (name data : List UInt8) (m : PMk) (far : Int) : Int := if m.n = name ∧ far < m.N ∧ m.N ≤ data.length ∧ csum (data.take m.N.toNat) = m.S then m.N else far
theorem farF_step {name data : List UInt8} {l : List PMk} {k : Nat} {far : Int} (h : k < l.length) : farF name data (l.drop k) far = farF name data (l.drop (k + 1)) (farS name data l[k] far) := by
  rw [List.drop_eq_getElem_cons h]; rfl
theorem farF_end {name data : List UInt8} {l : List PMk} {k : Nat} {far : Int} (h : l.length ≤ k) : farF name data (l.drop k) far = far := by rw [List.drop_of_length_le h]; rfl
theorem farS_yes {name data : List UInt8} {m : PMk} {far : Int} (h : m.n = name ∧ far < m.N ∧ m.N ≤ data.length ∧ csum (data.take m.N.toNat) = m.S) : farS name data m far = m.N := by unfold farS; rw [if_pos h]
theorem farS_no {name data : List UInt8} {m : PMk} {far : Int} (h : ¬ (m.n = name ∧ far < m.N ∧ m.N ≤ data.length ∧ csum (data.take m.N.toNat) = m.S)) : farS name data m far = far := by unfold farS; rw [if_neg h]
theorem bs_tlM (l : List UInt8) : (bs l).toList = l := by rw [ByteArray.toList_eq, bs_list]
attribute [local irreducible] farF farS
set_option maxRecDepth 100000 in
set_option maxHeartbeats 6400000 in
theorem bfar_any (l : List PMk) (v : Value) (name data : List UInt8) (w : World) (hl : SliceIs w v 3 (mkcells l)) (hd : data.length ≤ 100000) :
    Calls Tryz.prog 126 #[v, .string (bs name), .string (bs data)] w fun e w' => e = .returned (.int .i64 (farL name data l)) ∧ Below w.heap.size w w' := by
  obtain ⟨s, m, c, rfl, hn, h1, h2, hg⟩ := hl.get
  rw [mkcells_len] at hn
  obtain rfl : m = l.length := by omega
  unfold maxLen at h2
  have HSL := Lib.hid hl
  have HS : Hid (farL name data l = farF name data (l.drop 0) 0) := Lib.hid rfl
  have hdz : (bs data).size = data.length := bs_size data
  have SM := Lib.hid (fun (N : Nat) w' => sum_any (bs (data.take N)) w' (by rw [bs_size, List.length_take]; omega))
  simp only [bs_list] at SM
  generalize farL name data l = r at *
  clear hl hg
  go_enter Tryz.func126, Tryz.ntmps126
  go_wp2_with fail
  go_loopw [7, 9, 12] (fun f _ i wr => ∃ (k : Nat) (far : Int), i = .int .i64 k ∧ f = .int .i64 far ∧ k ≤ l.length ∧ 0 ≤ far ∧ far ≤ data.length ∧ r = farF name data (l.drop k) far ∧ Below w.heap.size w wr) (fun _ _ i _ => l.length - (intOf i).toNat)
  case atStart => exact ⟨0, 0, rfl, rfl, by omega, by omega, by omega, HS.out, Below.refl _ _⟩
  case round =>
    obtain ⟨k, far, rfl, rfl, hk, hf0, hf1, hr, bel⟩ := hrel
    have HR := Lib.hid hr
    clear hr
    by_cases hlt : k < l.length
    · have hltI : (k : Int) < l.length := by omega
      obtain ⟨s0', n0', c0', e1, _, _, _, g1⟩ := (HSL.out.below bel).get
      cases e1
      obtain ⟨g2, g3, g4⟩ := mkcells_get l k hlt
      obtain ⟨ad, rfl, d0⟩ := g1 _ _ g2
      obtain ⟨a', e', d1⟩ := g1 _ _ g3
      cases e'
      obtain ⟨a', e', d2⟩ := g1 _ _ g4
      cases e'
      clear g1 g2 g3 g4
      have ST := Lib.hid (HR.out.trans (farF_step hlt))
      have KK := Lib.hid (show k + 1 ≤ l.length by omega)
      have x1 : (0 : Int) ≤ k := by omega
      have x2 : (k : Int).toNat = k := by omega
      generalize l[k] = x at d0 d1 d2 ST
      have d1 := cell_at d1
      have d2 := cell_at d2
      have BA := Lib.hid (bel.alloc bel.size (.cells #[.string (bs x.n), .int .i64 x.N, .int .u32 x.S] 202))
      obtain ⟨xn, xN, xS⟩ := x
      simp only at d0 d1 d2 BA
      by_cases hx : xn = name
      · have hb : ((bs xn).toList == (bs name).toList) = true := by rw [bs_tlM, bs_tlM]; simpa using hx
        have hq : Op.bytesLess (bs xn).toList (bs name).toList = Op.bytesLess (bs xn).toList (bs name).toList := rfl
        by_cases h3 : far < xN
        · have h3d : decide (far < xN) = true := by simpa using h3
          by_cases h4 : xN ≤ data.length
          · have h4d : decide (xN ≤ (data.length : Int)) = true := by simpa using h4
            obtain ⟨N, rfl⟩ := Int.eq_ofNat_of_zero_le (show 0 ≤ xN by omega)
            have hN : N ≤ data.length := by omega
            have EX : (bs data).extract 0 N = bs (data.take N) := by rw [bs_take, bs_list]
            have y1 : (0 : Int) ≤ (N : Int) := by omega
            have y2 : (N : Int).toNat = N := by omega
            have SMN := Lib.hid (fun w' => SM.out N w')
            by_cases h5 : csum (data.take N) = xS
            · have h5b : ((csum (data.take N) : Int) == xS) = true := by rw [beq_iff_eq]; omega
              have ST2 := Lib.hid (ST.out.trans (by rw [farS_yes ⟨hx, h3, h4, by simpa using h5⟩]))
              generalize csum (data.take N) = cs at *
              clear hx hq
              go_wp2_with fail
              go_quiet ((go_at_call 121; first | exact Calls.quiet_of_same (SMN.out _) | exact quiet_left (SMN.out _) | exact quiet_add_left (SMN.out _)))
              go_wp2_with fail
              go_roundw
              case rel => exact ⟨k + 1, N, by go_num, rfl, KK.out, by omega, by omega, ST2.out, below_drewN BA.out _⟩
              case measure => simp [intOf]; omega
            · have h5b : ((csum (data.take N) : Int) == xS) = false := by rw [beq_eq_false_iff_ne]; omega
              have ST2 := Lib.hid (ST.out.trans (by rw [farS_no (fun h => h5 (by simpa using h.2.2.2))]))
              generalize csum (data.take N) = cs at *
              clear hx hq
              go_wp2_with fail
              go_quiet ((go_at_call 121; first | exact Calls.quiet_of_same (SMN.out _) | exact quiet_left (SMN.out _) | exact quiet_add_left (SMN.out _)))
              go_wp2_with fail
              go_roundw
              case rel => exact ⟨k + 1, far, by go_num, rfl, KK.out, hf0, hf1, ST2.out, below_drewN BA.out _⟩
              case measure => simp [intOf]; omega
          · have h4d : decide (xN ≤ (data.length : Int)) = false := by simpa using h4
            have ST2 := Lib.hid (ST.out.trans (by rw [farS_no (fun h => h4 h.2.2.1)]))
            clear hx hq
            go_wp2_with fail
            go_quiet (fail)
            go_wp2_with fail
            go_roundw
            case rel => exact ⟨k + 1, far, by go_num, rfl, KK.out, hf0, hf1, ST2.out, below_drewN BA.out _⟩
            case measure => simp [intOf]; omega
        · have h3d : decide (far < xN) = false := by simpa using h3
          have ST2 := Lib.hid (ST.out.trans (by rw [farS_no (fun h => h3 h.2.1)]))
          clear hx hq
          go_wp2_with fail
          go_quiet (fail)
          go_wp2_with fail
          go_roundw
          case rel => exact ⟨k + 1, far, by go_num, rfl, KK.out, hf0, hf1, ST2.out, below_drewN BA.out _⟩
          case measure => simp [intOf]; omega
      · have hb : ((bs xn).toList == (bs name).toList) = false := by rw [bs_tlM, bs_tlM]; simpa using hx
        have ST2 := Lib.hid (ST.out.trans (by rw [farS_no (fun h => hx h.1)]))
        clear hx
        go_wp2_with fail
        go_quiet (fail)
        go_wp2_with fail
        go_roundw
        case rel => exact ⟨k + 1, far, by go_num, rfl, KK.out, hf0, hf1, ST2.out, below_drewN BA.out _⟩
        case measure => simp [intOf]; omega
    · have hltI : ¬ (k : Int) < l.length := by omega
      have Y := Lib.hid (HR.out.trans (farF_end (by omega : l.length ≤ k)))
      go_wp2_with fail
      go_ret
      exact ⟨by rw [Y.out]; rfl, bel⟩
theorem infoMk : (Tryz.prog.info? 202).map (fun i => (i.zero, i.size, i.bytes)) = some (some (.agg #[.string ⟨#[]⟩, .int .i64 0, .int .u32 0]), 3, 32) := by kernel_rfl
theorem three_newsM {w : World} {b : Nat} {u0 u1 u2 : Value} {t : TypeId} (h : w.heap[b]? = some (.cells #[u0, u1, u2] t (0, 0))) : ∀ j u', [u0, u1, u2][j]? = some u' → w.cell? ((⟨b, 0, none⟩ : Addr).add j) = some u' := by
  intro j u' hj
  match j, hj with
  | 0, hj => simp at hj; subst hj; simp [World.cell?, h, Addr.add]
  | 1, hj => simp at hj; subst hj; simp [World.cell?, h, Addr.add]
  | 2, hj => simp at hj; subst hj; simp [World.cell?, h, Addr.add]
attribute [local irreducible] nameB
end Go.Proofs.YtppkeophochgiaaGreatDoor
/- A player's command: far. -/
namespace Go.Proofs.YtppkeophochgiaaGreatDoor
open Go.RowKit
set_option linter.unusedVariables false
/-- the marks among texts -/
def mrk (l : List (List UInt8)) : List PMk := (l.filter fun s => (rdM s).2 == 0).map fun s => (rdM s).1
theorem alloc2_at (w : World) (o1 o2 : Obj) : ((w.alloc o1).alloc o2).heap[w.heap.size + 1]? = some o2 := by
  have h := heap_alloc_new (w.alloc o1) o2
  rwa [show (w.alloc o1).heap.size = w.heap.size + 1 by simp] at h
theorem mrk_snoc (l : List (List UInt8)) (x : List UInt8) : mrk (l ++ [x]) = if (rdM x).2 = 0 then mrk l ++ [(rdM x).1] else mrk l := by
  unfold mrk
  rw [List.filter_append, List.map_append]
  by_cases h : (rdM x).2 = 0
  · rw [if_pos h, List.filter_cons_of_pos (by simp [h])]; rfl
  · rw [if_neg h, List.filter_cons_of_neg (by simp [h])]; simp
theorem mrk_zero (T : List (List UInt8)) : (mrk (T.take 0)).length = 0 ∧ mkcells (mrk (T.take 0)) = [] := by
  have h : mrk (T.take 0) = [] := by rw [List.take_zero]; unfold mrk; rfl
  rw [h]
  exact ⟨rfl, by unfold mkcells; rfl⟩
theorem mrk_len (l : List (List UInt8)) : (mrk l).length ≤ l.length := by unfold mrk; rw [List.length_map]; exact List.length_filter_le _ _
theorem readL_each : ∀ (n : Nat) (b : List UInt8), b.length ≤ n → ∀ x ∈ (readL b).1, x.length ≤ 20000 := by
  intro n
  induction n with
  | zero =>
    intro b hn x hx
    have hc := readL_cnt b
    have hl := readL_len b
    have h0 : (readL b).1 = [] := List.eq_nil_of_length_eq_zero (by omega)
    rw [h0] at hx
    cases hx
  | succ n ih =>
    intro b hn x hx
    cases ho : oneL b with
    | none => rw [readL_none ho] at hx; cases hx
    | some s =>
      have hp := recL_pos s
      rw [readL_some ho] at hx
      rcases List.mem_cons.1 hx with rfl | hx
      · exact oneL_len ho
      · exact ih (b.drop (recL s).length) (by rw [List.length_drop]; omega) x hx
section
variable {Q : Guest} {E : Nat → Addr} {w0 w w' : World} {pb k : Nat} {A : PlA} {s : SP}
attribute [local irreducible] mrk readL rdM farL datOf SP.far
set_option maxRecDepth 100000 in
set_option maxHeartbeats 12800000 in
theorem pfar_any (nm : List UInt8) (v : Value) (h : PlAt Q w0 w pb A s k) (hI : SInv s) (hE : SEnv E w0) (hv : SliceIs w v 1 [.string (bs nm)]) :
    Calls Tryz.prog 82 #[.pointer (some ⟨pb, 0, none⟩), v] w (Ans Q E w0 pb k (s.far nm)) := by
  obtain ⟨s0, m0, c0, rfl, hm0, hm1, hm2, g1⟩ := hv.get
  obtain ⟨ad, rfl, d0⟩ := g1 0 _ rfl
  rw [addr0] at d0
  have hm0 : m0 = 1 := by simpa using hm0.symm
  subst hm0
  have HX := Lib.hid h
  have HB := hI.tpb
  have HQ : Hid (s.far nm = (s, Lib.decDigits (farL nm (datOf s.tt nm) (mrk (readL s.tp.b).1)).toNat, 0)) := Lib.hid (by unfold SP.far SP.marks mrk; rfl)
  rw [HQ.out]
  have CS := Lib.hid (fun (w' : World) (b : Below w.heap.size w w') => (h.below b).cs.1.2)
  have D0 := Lib.hid (fun (w' : World) (b : Below w.heap.size w w') => (b.cell (World.block_lt_of_cell? w _ d0)).trans d0)
  have BY := Lib.hid ((tbytes_s h.tp).mono (fun e w2 h => And.intro h.1 h.2.symm))
  have RD := Lib.hid (fun (w' : World) (b : Below w.heap.size w w') => read_any E s.tp.b w' (hE.lib.below (below_trans' h.bel b)) (by omega))
  have MR := Lib.hid (fun (x : List UInt8) (hx : x.length ≤ 20000) (w' : World) (b : Below w.heap.size w w') => bread_any E x w' (hE.lib.below (below_trans' h.bel b)) (by omega) (hE.err.e1.below (below_trans' h.bel b)) (hE.err.e2.below (below_trans' h.bel b)) (hE.err.e5.below (below_trans' h.bel b)))
  have GT := Lib.hid (fun (w' : World) (b : Below w.heap.size w w') => (show Calls Tryz.prog 103 #[A.vt, .string (bs nm)] w' fun e w2 => e = .returned (.tuple #[.string (bs (datOf s.tt nm)), .bool (fgetL s.tt nm).isSome]) ∧ Below w'.heap.size w' w2 from (by unfold datOf; exact flget_any s.tt A.vt nm w' (SliceIs.ownedK (h.below b).tt))))
  have LT := datOf_le hI.tt nm
  have FB := farL_bd nm (datOf s.tt nm) (mrk (readL s.tp.b).1)
  have IT := Lib.hid (fun (x : Nat) (hx : x ≤ 1000) (w' : World) (b : Below w.heap.size w w') => itoa_any E x w' (hE.lib.below (below_trans' h.bel b)) (by omega))
  have CN : (readL s.tp.b).1.length ≤ 1048576 := by
    have a := readL_cnt s.tp.b
    have b := readL_len s.tp.b
    omega
  have MZ := Lib.hid mrk_zero
  have EA := Lib.hid (readL_each _ s.tp.b (Nat.le_refl _))
  have FR := Lib.hid (fun v (w' : World) hl => bfar_any (mrk (readL s.tp.b).1) v nm (datOf s.tt nm) w' hl (by omega))
  obtain ⟨ta, tc, ht⟩ := owns_slice h.tt
  have c4 := h.cs.1.2.2.2
  have HTL := h.tt.1
  obtain ⟨i0, hi, hz0, hz1, hz2⟩ := info_parts infoMk
  generalize (fgetL s.tt nm).isSome = gb at *
  generalize datOf s.tt nm = dt at *
  obtain ⟨z, hz⟩ : ∃ z : Nat, farL nm dt (mrk (readL s.tp.b).1) = z := ⟨(farL nm dt (mrk (readL s.tp.b).1)).toNat, by omega⟩
  rw [hz] at FR FB ⊢
  generalize A.vt = vt at *
  subst ht
  generalize (readL s.tp.b).2 = rn at *
  generalize (readL s.tp.b).1 = T at *
  clear h hI hE hv g1 HQ HTL hz
  go_enter Tryz.func82, Tryz.ntmps82
  go_wp2_with fail
  refine BY.out.mono ?_
  rintro e w1 ⟨rfl, rfl⟩
  go_wp2_with fail
  refine (RD.out _ (Below.refl _ _)).mono ?_
  rintro e w2 ⟨r, rfl, hr, b2⟩
  have B2 := Lib.hid b2
  have HR := Lib.hid hr
  obtain ⟨ra, rc, rfl⟩ := owns_slice hr
  clear BY RD hr b2 c4 d0
  go_wp2_with fail
  go_loopw [8, 10, 11, 12, 26] (fun o _ _ _ i wr => ∃ j : Nat, i = .int .i64 j ∧ j ≤ T.length ∧ wr.ownsRow w2.heap.size 202 3 o (mrk (T.take j)).length (mkcells (mrk (T.take j))) ∧ Below w2.heap.size w2 wr) (fun _ _ _ _ i _ => T.length - (intOf i).toNat)
  case atStart => exact ⟨0, rfl, by omega, by rw [(MZ.out T).1, (MZ.out T).2]; exact World.ownsRow_nil _ _ _ _, Below.refl _ _⟩
  case round =>
    obtain ⟨j, rfl, hj, hown, bel⟩ := hrel
    have BW := Lib.hid bel
    have BA := Lib.hid (below_trans' B2.out bel)
    have HO := Lib.hid hown
    by_cases hlt : j < T.length
    · have hltI : (j : Int) < T.length := by omega
      obtain ⟨s0', n0', c0', e1, _, _, _, g1⟩ := ((SliceIs.ownedK HR.out).below bel).get
      cases e1
      obtain ⟨ad', rfl, d0⟩ := g1 _ _ (strV_at T j hlt)
      have x1 : (0 : Int) ≤ j := by omega
      have x2 : (j : Int).toNat = j := by omega
      have KK := Lib.hid (show j + 1 ≤ T.length by omega)
      have NX := Lib.hid (show mrk (T.take (j + 1)) = if (rdM T[j]).2 = 0 then mrk (T.take j) ++ [(rdM T[j]).1] else mrk (T.take j) by rw [List.take_succ_eq_append_getElem hlt]; exact mrk_snoc _ _)
      have ML := mrk_len (T.take j)
      rw [List.length_take] at ML
      have MR1 := Lib.hid (MR.out T[j] (EA.out _ (List.getElem_mem _)) _ BA.out)
      generalize T[j] = x at d0 NX MR1
      obtain ⟨va, vc, rfl⟩ := owns_slice hown
      clear hown bel g1 MR EA
      generalize hm : (rdM x).1 = m at *
      generalize hc : (rdM x).2 = c at *
      by_cases h0 : c = 0
      · subst h0
        rw [if_pos rfl] at NX
        have HN1 : Hid ((mrk (T.take j)).length + 1 ≤ maxLen) := by show _ ≤ _; unfold maxLen; omega
        have HN2 : Hid (((mrk (T.take j)).length + 1) * 32 ≤ 140737488355328) := by show _ ≤ _; omega
        generalize mrk (T.take j) = M at *
        rw [ev_zero] at MR1
        unfold PMk.val at MR1
        clear hm hc
        go_wp2_with fail
        refine MR1.out.mono ?_
        rintro e w3 ⟨rfl, b3⟩
        have BX := Lib.hid (below_trans' BW.out b3)
        have BX2 := Lib.hid (below_trans' BA.out b3)
        have HO3 := Lib.hid (owns_below HO.out b3)
        clear b3 MR1 HO d0
        have HSZ := Lib.hid BX.out.size
        have MV := Lib.hid (show mkcells (M ++ [m]) = mkcells M ++ [.string (bs m.n), .int .i64 m.N, .int .u32 (m.S : Int)] from mkcells_snoc M m)
        have ML2 := Lib.hid (show (M ++ [m]).length = M.length + 1 by simp)
        go_wp2_with (at_builtin; refine Hid.out ?_)
        refine Lib.hid ?_
        (refine wpList_append_own _ rfl _ _ 204 rfl w2.heap.size 202 i0 _ 3 32 Tryz.underlying204 hi hz0 hz1 hz2 rfl (by decide) _ _ _ rfl ((HO3.out.alloc _).alloc _) ⟨w3.heap.size + 1, 0, none⟩ 1 1 [.string (bs m.n), .int .i64 m.N, .int .u32 (m.S : Int)] rfl rfl (three_newsM (alloc2_at _ _ _)) (fun u hu => by simp at hu; rcases hu with rfl | rfl | rfl <;> rfl) HN1.out HN2.out (by have := HSZ.out; simp; omega) ?_; intro v' w5 hown5 hgrow _; have HO5 := Lib.hid hown5; have B5 := Lib.hid (((BX.out.alloc HSZ.out _).alloc (by have := HSZ.out; simp; omega) _).grown hgrow (by have := HSZ.out; simp; omega) (fun j hj => (HO3.out.lt j hj).1)); clear hown5 hgrow)
        go_wp2_with fail
        go_roundw
        case rel => exact ⟨j + 1, by go_num, KK.out, by rw [NX.out, MV.out, ML2.out]; exact HO5.out, B5.out⟩
        case measure => have := KK.out; simp [intOf]; omega
      · rw [if_neg h0] at NX
        rw [ev_is E h0] at MR1
        unfold PMk.val at MR1
        unfold errv at MR1
        clear hm hc
        go_wp2_with fail
        refine MR1.out.mono ?_
        rintro e w3 ⟨rfl, b3⟩
        have BX := Lib.hid (below_trans' BW.out b3)
        have HO3 := Lib.hid (owns_below HO.out b3)
        clear b3 MR1 HO d0
        go_wp2_with fail
        go_roundw
        case rel => exact ⟨j + 1, by go_num, KK.out, by rw [NX.out]; exact HO3.out.alloc _, BX.out.alloc BX.out.size _⟩
        case measure => have := KK.out; simp [intOf]; omega
    · have hltI : ¬ (j : Int) < T.length := by omega
      obtain rfl : j = T.length := by omega
      rw [List.take_length] at hown HO
      obtain ⟨va, vc, hva⟩ := owns_slice hown
      subst hva
      clear hown bel MR EA
      have cc := (CS.out _ BA.out).1
      have d0 := D0.out _ BA.out
      have BD := Lib.hid (Below.drew BA.out)
      have GT1 := Lib.hid (GT.out _ BD.out)
      have S0 := And.intro cc d0
      have S1 := And.intro (CS.out _ BD.out).1 (D0.out _ BD.out)
      have KS := Lib.hid (fun (W : World) (bb : Below wr.drew.heap.size wr.drew W) => And.intro (CS.out _ (below_trans' BD.out bb)).1 (D0.out _ (below_trans' BD.out bb)))
      clear GT
      go_wp2_with fail
      go_region_held3 (fun X => X.cell? ⟨pb, 1, none⟩ = some (.slice ta s.tt.length tc) ∧ X.cell? ad = some (.string (bs nm))) (first | exact S1 | exact S0 | exact KS.out _ (by assumption)) ((go_at_call 103; refine GT1.out.mono ?_; rintro e w3 ⟨rfl, b3⟩))
      have B3 := Lib.hid (below_trans' BD.out b3)
      have HO3 := Lib.hid (owns_below HO.out (below_trans' (Below.drew (Below.refl _ _)) b3))
      have FR1 := Lib.hid (FR.out _ w3 (SliceIs.ownedK HO3.out))
      clear S0 S1 KS d0 cc
      have d0 := D0.out _ B3.out
      clear b3 GT1 FR
      go_wp2_with fail
      refine FR1.out.mono ?_
      rintro e w4 ⟨rfl, b4⟩
      have B4 := Lib.hid (below_trans' B3.out b4)
      have IT1 := Lib.hid (IT.out z (by omega) _ B4.out)
      clear b4 FR1 d0
      go_wp2_with fail
      refine IT1.out.mono ?_
      rintro e w5 ⟨rfl, b5⟩
      have B5 := Lib.hid (below_trans' B4.out b5)
      clear b5 IT1
      go_wp2_with fail
      go_ret2
      exact ⟨_, A, k, rfl, told_nil E _, HX.out.below B5.out, by omega⟩
end
end Go.Proofs.YtppkeophochgiaaGreatDoor
