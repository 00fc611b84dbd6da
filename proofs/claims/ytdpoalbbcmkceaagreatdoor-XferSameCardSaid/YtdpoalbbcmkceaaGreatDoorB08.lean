/- Texts of one proof, one behind the other: Code, Hand. -/
import Derived.Test.YtdpoalbbcmkceaaGreatDoorB07
import Derived.Test.YtdpoalbbcmkceaaGreatDoorB04
import Derived.Handy
/- plain.Code by its contract: an error's number and place. -/
namespace Go.Proofs.YtdpoalbbcmkceaaGreatDoor
open Go.RowKit
set_option linter.unusedVariables false

theorem ret2c {a a' b b' : Value} (h1 : a = a') (h2 : b = b') : Ending.returned (.tuple #[a, b]) = .returned (.tuple #[a', b']) := by rw [h1, h2]
theorem as_hit' (e t : Addr) (old : Value) (w : World) (hg : Hand w) (ht0 : w.cell? t = some old) (hf0 : w.frozen? t = false) (hts : t = ⟨t.block, 0, none⟩) :
    Calls Tryz.prog 47 #[.iface 90 (.pointer (some e)), .iface 92 (.pointer (some t))] w fun ev w' => ev = .returned (.bool true) ∧ w'.cell? t = some (.pointer (some e)) ∧ w.grownBy w' (some t.block) := by
  refine (as_hit e t old w hg ht0 hf0).mono ?_
  rintro ev w' ⟨rfl, rfl⟩
  have htl : t.block < w.heap.size := World.block_lt_of_cell? w _ ht0
  have b4 : ∀ a b c d : Obj, Below w.heap.size w ((((w.alloc a).alloc b).alloc c).alloc d) := fun a b c d => ((((Below.refl _ w).alloc (Nat.le_refl _) a).alloc (by simp) b).alloc (by simp; omega) c).alloc (by simp; omega) d
  refine ⟨rfl, ?_, ?_⟩
  · exact World.cell?_setCell_same (h := ((b4 _ _ _ _).cell htl).trans ht0) ..
  · rw [hts]
    exact grownBy_trans (grownBy_below (b4 _ _ _ _)) (grownBy_set _ _ _ _)

theorem below_al (w : World) (o : Obj) : Below w.heap.size w (w.alloc o) := (Below.refl _ w).alloc (Nat.le_refl _) o
/-- all the errors, and the handle, at a world -/
structure Errs (E : Nat → Addr) (w : World) : Prop where
  hand : Hand w
  has : ∀ c, 1 ≤ c → c ≤ 12 → Has E w c
  sent : ∀ c, 1 ≤ c → c ≤ 12 → ∃ cs t, w.heap[(E c).block]? = some (.cells cs t (0, 0))
  ne : ∀ c d, 1 ≤ c → c ≤ 12 → 1 ≤ d → d ≤ 12 → c ≠ d → E c ≠ E d
theorem Errs.below {E : Nat → Addr} {w w' : World} (h : Errs E w) (hb : Below w.heap.size w w') : Errs E w' :=
  ⟨h.hand.below hb, fun c h1 h2 => (h.has c h1 h2).below hb, fun c h1 h2 => by
    obtain ⟨cs, t, e⟩ := h.sent c h1 h2
    exact ⟨cs, t, (hb.block _ (lt_of_block e)).trans e⟩, h.ne⟩
theorem twelve {c : Nat} (h1 : 1 ≤ c) (h2 : c ≤ 12) : c ∈ [1, 2, 3, 4, 5, 6, 7, 8, 9, 10, 11, 12] := by
  have : c = 1 ∨ c = 2 ∨ c = 3 ∨ c = 4 ∨ c = 5 ∨ c = 6 ∨ c = 7 ∨ c = 8 ∨ c = 9 ∨ c = 10 ∨ c = 11 ∨ c = 12 := by omega
  simp; omega
theorem Errs.of {E : Nat → Addr} {w : World} (hh : Hand w) (h : ∀ c ∈ [1, 2, 3, 4, 5, 6, 7, 8, 9, 10, 11, 12], Has E w c ∧ Sent w (E c)) (h2 : ∀ c ∈ [1, 2, 3, 4, 5, 6, 7, 8, 9, 10, 11, 12], ∀ c' ∈ [1, 2, 3, 4, 5, 6, 7, 8, 9, 10, 11, 12], c ≠ c' → E c ≠ E c') : Errs E w :=
  ⟨hh, fun c a b => (h c (twelve a b)).1, fun c a b => (h c (twelve a b)).2.1, fun c d a b a' b' => h2 c (twelve a b) d (twelve a' b')⟩
/-- errors.Is of an error with a place, or without -/
theorem isE {E : Nat → Addr} {w : World} (h : Errs E w) {v : Value} {c : Nat} {a : Int} (hv : FErr E w v c a) (hc : 1 ≤ c) (hc2 : c ≤ 12) (k : Nat) (hk : 1 ≤ k) (hk2 : k ≤ 12) :
    Calls Tryz.prog 48 #[v, errv (E k)] w fun e w' => e = .returned (.bool (decide (c = k))) ∧ w = w' := by
  obtain ⟨ca, ta, ha⟩ := h.sent c hc hc2
  obtain ⟨cb, tb, hb⟩ := h.sent k hk hk2
  rcases hv with ⟨h0, _⟩ | ⟨h0, h1, rfl⟩ | ⟨h0, h1, fb, rfl, hf⟩
  · omega
  · by_cases e : c = k
    · subst e
      simp only [decide_true]
      unfold errv
      exact is_same _ w
    · simp only [e, decide_false]
      unfold errv
      exact is_other _ _ ca cb ta tb w (h.ne c k hc hc2 hk hk2 e) ha hb
  · have c1 : w.cell? ⟨fb, 1, none⟩ = some (errv (E c)) := by simp [World.cell?, hf]
    unfold errv at c1 ⊢
    by_cases e : c = k
    · subst e
      simp only [decide_true]
      exact is_fault_same fb _ w c1
    · simp only [e, decide_false]
      exact is_fault_other fb _ _ ca cb ta tb w c1 (h.ne c k hc hc2 hk hk2 e) ha hb
theorem row12 {w : World} {b : Nat} {f : Nat → Value} {t : TypeId} (h : w.heap[b]? = some (.cells #[f 1, f 2, f 3, f 4, f 5, f 6, f 7, f 8, f 9, f 10, f 11, f 12] t (0, 0))) (k : Nat) (hk : k < 12) : w.cell? ⟨b, k, none⟩ = some (f (k + 1)) := by
  have : k = 0 ∨ k = 1 ∨ k = 2 ∨ k = 3 ∨ k = 4 ∨ k = 5 ∨ k = 6 ∨ k = 7 ∨ k = 8 ∨ k = 9 ∨ k = 10 ∨ k = 11 := by omega
  rcases this with rfl | rfl | rfl | rfl | rfl | rfl | rfl | rfl | rfl | rfl | rfl | rfl <;> simp [World.cell?, h]

set_option maxRecDepth 100000 in
set_option maxHeartbeats 6400000 in
theorem code_any (E : Nat → Addr) (v : Value) (c : Nat) (a : Int) (w : World) (h : FErr E w v c a) (hE : Errs E w) (hc : c ≤ 12) :
    Calls Tryz.prog 29 #[v] w fun e w' => e = .returned (.tuple #[.int .i64 c, .int .i64 a]) ∧ Below w.heap.size w w' := by
  by_cases h0 : c = 0
  · subst h0
    have hv := h.zero
    have ha : a = -1 := by rcases h with ⟨_, h, _⟩ | ⟨h, _⟩ | ⟨h, _⟩ <;> first | exact h | exact absurd rfl h
    subst hv ha
    clear h hE
    go_enter Tryz.func29, Tryz.ntmps29
    go_wp2_with fail
    go_ret2
    exact ⟨rfl, Below.refl _ _⟩
  · have hc1 : 1 ≤ c := by omega
    have HEE := Lib.hid hE
    have HV := Lib.hid h
    have L1 := Lib.hid (fun (w' : World) (b : Below w.heap.size w w') => show w'.cell? ⟨0, 0, none⟩ = some (errv (E 1)) from (hE.below b).has 1 (by omega) (by omega))
    have L2 := Lib.hid (fun (w' : World) (b : Below w.heap.size w w') => show w'.cell? ⟨1, 0, none⟩ = some (errv (E 2)) from (hE.below b).has 2 (by omega) (by omega))
    have L3 := Lib.hid (fun (w' : World) (b : Below w.heap.size w w') => show w'.cell? ⟨2, 0, none⟩ = some (errv (E 3)) from (hE.below b).has 3 (by omega) (by omega))
    have L4 := Lib.hid (fun (w' : World) (b : Below w.heap.size w w') => show w'.cell? ⟨3, 0, none⟩ = some (errv (E 4)) from (hE.below b).has 4 (by omega) (by omega))
    have L5 := Lib.hid (fun (w' : World) (b : Below w.heap.size w w') => show w'.cell? ⟨4, 0, none⟩ = some (errv (E 5)) from (hE.below b).has 5 (by omega) (by omega))
    have L6 := Lib.hid (fun (w' : World) (b : Below w.heap.size w w') => show w'.cell? ⟨5, 0, none⟩ = some (errv (E 6)) from (hE.below b).has 6 (by omega) (by omega))
    have L7 := Lib.hid (fun (w' : World) (b : Below w.heap.size w w') => show w'.cell? ⟨6, 0, none⟩ = some (errv (E 7)) from (hE.below b).has 7 (by omega) (by omega))
    have L8 := Lib.hid (fun (w' : World) (b : Below w.heap.size w w') => show w'.cell? ⟨7, 0, none⟩ = some (errv (E 8)) from (hE.below b).has 8 (by omega) (by omega))
    have L9 := Lib.hid (fun (w' : World) (b : Below w.heap.size w w') => show w'.cell? ⟨8, 0, none⟩ = some (errv (E 9)) from (hE.below b).has 9 (by omega) (by omega))
    have L10 := Lib.hid (fun (w' : World) (b : Below w.heap.size w w') => show w'.cell? ⟨9, 0, none⟩ = some (errv (E 10)) from (hE.below b).has 10 (by omega) (by omega))
    have L11 := Lib.hid (fun (w' : World) (b : Below w.heap.size w w') => show w'.cell? ⟨10, 0, none⟩ = some (errv (E 11)) from (hE.below b).has 11 (by omega) (by omega))
    have L12 := Lib.hid (fun (w' : World) (b : Below w.heap.size w w') => show w'.cell? ⟨11, 0, none⟩ = some (errv (E 12)) from (hE.below b).has 12 (by omega) (by omega))
    have b0 := below_al w (.cells #[.pointer none] 90)
    have hand0 := Lib.hid (hE.below b0).hand
    obtain ⟨t, p, hvp⟩ := h.some h0
    -- what errors.As gives
    have AS : ∃ hit : Bool, Calls Tryz.prog 47 #[v, .iface 92 (.pointer (some ⟨w.heap.size, 0, none⟩))] (w.alloc (.cells #[.pointer none] 90)) fun ev w' => ev = .returned (.bool hit) ∧ Below w.heap.size w w' ∧
        (if hit = true then ∃ fb, w'.cell? ⟨w.heap.size, 0, none⟩ = some (.pointer (some ⟨fb, 0, none⟩)) ∧ w'.cell? ⟨fb, 0, none⟩ = some (.int .i64 a) else a = -1) := by
      rcases h with ⟨h0', _⟩ | ⟨_, h1, rfl⟩ | ⟨_, h1, fb, rfl, hf⟩
      · exact absurd h0' h0
      · refine ⟨false, ?_⟩
        unfold errv
        refine (as_miss _ _ _ hand0.out).mono ?_
        rintro ev w' ⟨rfl, b⟩
        exact ⟨rfl, below_trans' b0 b, by simpa using h1⟩
      · refine ⟨true, ?_⟩
        refine (as_hit' _ _ (.pointer none) _ hand0.out (by simp) (by simp) rfl).mono ?_
        rintro ev w' ⟨rfl, hc', hg⟩
        refine ⟨rfl, b0.grown hg (by simp) (fun k hk => by cases hk; exact Nat.le_refl _), ?_⟩
        simp only [if_true]
        refine ⟨fb, hc', ?_⟩
        have hlt := lt_of_block hf
        have := (hg.block fb (by simp; omega) (by simp; omega)).trans ((Below.heap_alloc w _ fb hlt).trans hf)
        simp [World.cell?, this]
    obtain ⟨hit, AS⟩ := AS
    subst hvp
    have HAS := Lib.hid AS
    clear AS h hE b0
    cases hit
    · go_enter Tryz.func29, Tryz.ntmps29
      go_wp2_with fail
      refine HAS.out.mono ?_
      rintro e w1 ⟨rfl, b1, ha⟩
      simp only [Bool.false_eq_true, if_false] at ha
      subst ha
      have c1 := L1.out _ b1
      have c2 := L2.out _ b1
      have c3 := L3.out _ b1
      have c4 := L4.out _ b1
      have c5 := L5.out _ b1
      have c6 := L6.out _ b1
      have c7 := L7.out _ b1
      have c8 := L8.out _ b1
      have c9 := L9.out _ b1
      have c10 := L10.out _ b1
      have c11 := L11.out _ b1
      have c12 := L12.out _ b1
      unfold errv at c1 c2 c3 c4 c5 c6 c7 c8 c9 c10 c11 c12
      clear L1 L2 L3 L4 L5 L6 L7 L8 L9 L10 L11 L12 hand0
      go_wp2_with fail
      have ROW := heap_alloc_new w1 (.cells #[.iface 237 (.pointer (some (E 1))), .iface 237 (.pointer (some (E 2))), .iface 237 (.pointer (some (E 3))), .iface 237 (.pointer (some (E 4))), .iface 237 (.pointer (some (E 5))), .iface 237 (.pointer (some (E 6))), .iface 237 (.pointer (some (E 7))), .iface 237 (.pointer (some (E 8))), .iface 237 (.pointer (some (E 9))), .iface 237 (.pointer (some (E 10))), .iface 237 (.pointer (some (E 11))), .iface 237 (.pointer (some (E 12)))] 28)
      have b2 := b1.alloc b1.size (.cells #[.iface 237 (.pointer (some (E 1))), .iface 237 (.pointer (some (E 2))), .iface 237 (.pointer (some (E 3))), .iface 237 (.pointer (some (E 4))), .iface 237 (.pointer (some (E 5))), .iface 237 (.pointer (some (E 6))), .iface 237 (.pointer (some (E 7))), .iface 237 (.pointer (some (E 8))), .iface 237 (.pointer (some (E 9))), .iface 237 (.pointer (some (E 10))), .iface 237 (.pointer (some (E 11))), .iface 237 (.pointer (some (E 12)))] 28)
      have hsz : w1.heap.size < (w1.alloc (.cells #[.iface 237 (.pointer (some (E 1))), .iface 237 (.pointer (some (E 2))), .iface 237 (.pointer (some (E 3))), .iface 237 (.pointer (some (E 4))), .iface 237 (.pointer (some (E 5))), .iface 237 (.pointer (some (E 6))), .iface 237 (.pointer (some (E 7))), .iface 237 (.pointer (some (E 8))), .iface 237 (.pointer (some (E 9))), .iface 237 (.pointer (some (E 10))), .iface 237 (.pointer (some (E 11))), .iface 237 (.pointer (some (E 12)))] 28)).heap.size := by simp
      clear c1 c2 c3 c4 c5 c6 c7 c8 c9 c10 c11 c12
      generalize w1.alloc (.cells #[.iface 237 (.pointer (some (E 1))), .iface 237 (.pointer (some (E 2))), .iface 237 (.pointer (some (E 3))), .iface 237 (.pointer (some (E 4))), .iface 237 (.pointer (some (E 5))), .iface 237 (.pointer (some (E 6))), .iface 237 (.pointer (some (E 7))), .iface 237 (.pointer (some (E 8))), .iface 237 (.pointer (some (E 9))), .iface 237 (.pointer (some (E 10))), .iface 237 (.pointer (some (E 11))), .iface 237 (.pointer (some (E 12)))] 28) = w2 at ROW b2 hsz ⊢
      have RW := Lib.hid (fun k hk => row12 (f := fun k => .iface 237 (.pointer (some (E k)))) ROW k hk)
      have E2 := Lib.hid (HEE.out.below b2)
      have V2 := Lib.hid (HV.out.below b2)
      clear ROW
      go_loop [30, 5, 6, 3] (fun i _ _ at' => ∃ k : Nat, i = .int .i64 k ∧ k < c ∧ at' = .int .i64 (-1)) (fun i _ _ _ => 12 - (intOf i).toNat)
      case atStart => exact ⟨0, rfl, by omega, rfl⟩
      case round =>
        obtain ⟨k, rfl, hk, rfl⟩ := hrel
        have hltI : (k : Int) < 12 := by omega
        have hcell := RW.out k (by omega)
        have IS := isE E2.out V2.out hc1 hc (k + 1) (by omega) (by omega)
        unfold errv at IS
        have x1 : (0 : Int) ≤ k := by omega
        have x2 : (k : Int).toNat = k := by omega
        by_cases hck : c = k + 1
        · simp only [hck, decide_true] at IS
          have HIS := Lib.hid IS
          clear IS
          go_wp2_with fail
          refine HIS.out.mono ?_
          rintro e w4 ⟨rfl, rfl⟩
          go_wp2_with fail
          go_ret2
          exact ⟨ret2c (by rw [hck]; go_num) rfl, b2⟩
        · simp only [hck, decide_false] at IS
          have HIS := Lib.hid IS
          have HCK := Lib.hid (show k + 1 < c by omega)
          clear IS hck
          go_wp2_with fail
          refine HIS.out.mono ?_
          rintro e w4 ⟨rfl, rfl⟩
          go_wp2_with fail
          go_round
          case rel => exact ⟨k + 1, by go_num, HCK.out, rfl⟩
          case measure => simp [intOf]; omega
    · go_enter Tryz.func29, Tryz.ntmps29
      go_wp2_with fail
      refine HAS.out.mono ?_
      rintro e w1 ⟨rfl, b1, ha⟩
      simp only [if_true] at ha
      obtain ⟨fb, hf1, hf2⟩ := ha
      have c1 := L1.out _ b1
      have c2 := L2.out _ b1
      have c3 := L3.out _ b1
      have c4 := L4.out _ b1
      have c5 := L5.out _ b1
      have c6 := L6.out _ b1
      have c7 := L7.out _ b1
      have c8 := L8.out _ b1
      have c9 := L9.out _ b1
      have c10 := L10.out _ b1
      have c11 := L11.out _ b1
      have c12 := L12.out _ b1
      unfold errv at c1 c2 c3 c4 c5 c6 c7 c8 c9 c10 c11 c12
      clear L1 L2 L3 L4 L5 L6 L7 L8 L9 L10 L11 L12 hand0
      go_wp2_with fail
      have ROW := heap_alloc_new w1 (.cells #[.iface 237 (.pointer (some (E 1))), .iface 237 (.pointer (some (E 2))), .iface 237 (.pointer (some (E 3))), .iface 237 (.pointer (some (E 4))), .iface 237 (.pointer (some (E 5))), .iface 237 (.pointer (some (E 6))), .iface 237 (.pointer (some (E 7))), .iface 237 (.pointer (some (E 8))), .iface 237 (.pointer (some (E 9))), .iface 237 (.pointer (some (E 10))), .iface 237 (.pointer (some (E 11))), .iface 237 (.pointer (some (E 12)))] 28)
      have b2 := b1.alloc b1.size (.cells #[.iface 237 (.pointer (some (E 1))), .iface 237 (.pointer (some (E 2))), .iface 237 (.pointer (some (E 3))), .iface 237 (.pointer (some (E 4))), .iface 237 (.pointer (some (E 5))), .iface 237 (.pointer (some (E 6))), .iface 237 (.pointer (some (E 7))), .iface 237 (.pointer (some (E 8))), .iface 237 (.pointer (some (E 9))), .iface 237 (.pointer (some (E 10))), .iface 237 (.pointer (some (E 11))), .iface 237 (.pointer (some (E 12)))] 28)
      have hsz : w1.heap.size < (w1.alloc (.cells #[.iface 237 (.pointer (some (E 1))), .iface 237 (.pointer (some (E 2))), .iface 237 (.pointer (some (E 3))), .iface 237 (.pointer (some (E 4))), .iface 237 (.pointer (some (E 5))), .iface 237 (.pointer (some (E 6))), .iface 237 (.pointer (some (E 7))), .iface 237 (.pointer (some (E 8))), .iface 237 (.pointer (some (E 9))), .iface 237 (.pointer (some (E 10))), .iface 237 (.pointer (some (E 11))), .iface 237 (.pointer (some (E 12)))] 28)).heap.size := by simp
      clear c1 c2 c3 c4 c5 c6 c7 c8 c9 c10 c11 c12
      generalize w1.alloc (.cells #[.iface 237 (.pointer (some (E 1))), .iface 237 (.pointer (some (E 2))), .iface 237 (.pointer (some (E 3))), .iface 237 (.pointer (some (E 4))), .iface 237 (.pointer (some (E 5))), .iface 237 (.pointer (some (E 6))), .iface 237 (.pointer (some (E 7))), .iface 237 (.pointer (some (E 8))), .iface 237 (.pointer (some (E 9))), .iface 237 (.pointer (some (E 10))), .iface 237 (.pointer (some (E 11))), .iface 237 (.pointer (some (E 12)))] 28) = w2 at ROW b2 hsz ⊢
      have RW := Lib.hid (fun k hk => row12 (f := fun k => .iface 237 (.pointer (some (E k)))) ROW k hk)
      have E2 := Lib.hid (HEE.out.below b2)
      have V2 := Lib.hid (HV.out.below b2)
      clear ROW
      go_loop [30, 5, 6, 3] (fun i _ _ at' => ∃ k : Nat, i = .int .i64 k ∧ k < c ∧ at' = .int .i64 a) (fun i _ _ _ => 12 - (intOf i).toNat)
      case atStart => exact ⟨0, rfl, by omega, rfl⟩
      case round =>
        obtain ⟨k, rfl, hk, rfl⟩ := hrel
        have hltI : (k : Int) < 12 := by omega
        have hcell := RW.out k (by omega)
        have IS := isE E2.out V2.out hc1 hc (k + 1) (by omega) (by omega)
        unfold errv at IS
        have x1 : (0 : Int) ≤ k := by omega
        have x2 : (k : Int).toNat = k := by omega
        by_cases hck : c = k + 1
        · simp only [hck, decide_true] at IS
          have HIS := Lib.hid IS
          clear IS
          go_wp2_with fail
          refine HIS.out.mono ?_
          rintro e w4 ⟨rfl, rfl⟩
          go_wp2_with fail
          go_ret2
          exact ⟨ret2c (by rw [hck]; go_num) rfl, b2⟩
        · simp only [hck, decide_false] at IS
          have HIS := Lib.hid IS
          have HCK := Lib.hid (show k + 1 < c by omega)
          clear IS hck
          go_wp2_with fail
          refine HIS.out.mono ?_
          rintro e w4 ⟨rfl, rfl⟩
          go_wp2_with fail
          go_round
          case rel => exact ⟨k + 1, by go_num, HCK.out, rfl⟩
          case measure => simp [intOf]; omega
end Go.Proofs.YtdpoalbbcmkceaaGreatDoor
/- plain.Code of another error; the statements' coded and faulted. -/
namespace Go.Proofs.YtdpoalbbcmkceaaGreatDoor
open Go.RowKit
set_option linter.unusedVariables false

set_option maxRecDepth 100000 in
set_option maxHeartbeats 6400000 in
theorem code_other (E : Nat → Addr) (p : Addr) (cp : Array Value) (tp : TypeId) (w : World) (hp : w.heap[p.block]? = some (.cells cp tp (0, 0))) (hne : ∀ k, 1 ≤ k → k ≤ 12 → p ≠ E k) (hE : Errs E w) :
    Calls Tryz.prog 29 #[.iface 237 (.pointer (some p))] w fun e w' => e = .returned (.tuple #[.int .i64 (-1), .int .i64 (-1)]) ∧ Below w.heap.size w w' := by
  have HEE := Lib.hid hE
  have HP := Lib.hid hp
  have HNE := Lib.hid hne
  have L1 := Lib.hid (fun (w' : World) (b : Below w.heap.size w w') => show w'.cell? ⟨0, 0, none⟩ = some (errv (E 1)) from (hE.below b).has 1 (by omega) (by omega))
  have L2 := Lib.hid (fun (w' : World) (b : Below w.heap.size w w') => show w'.cell? ⟨1, 0, none⟩ = some (errv (E 2)) from (hE.below b).has 2 (by omega) (by omega))
  have L3 := Lib.hid (fun (w' : World) (b : Below w.heap.size w w') => show w'.cell? ⟨2, 0, none⟩ = some (errv (E 3)) from (hE.below b).has 3 (by omega) (by omega))
  have L4 := Lib.hid (fun (w' : World) (b : Below w.heap.size w w') => show w'.cell? ⟨3, 0, none⟩ = some (errv (E 4)) from (hE.below b).has 4 (by omega) (by omega))
  have L5 := Lib.hid (fun (w' : World) (b : Below w.heap.size w w') => show w'.cell? ⟨4, 0, none⟩ = some (errv (E 5)) from (hE.below b).has 5 (by omega) (by omega))
  have L6 := Lib.hid (fun (w' : World) (b : Below w.heap.size w w') => show w'.cell? ⟨5, 0, none⟩ = some (errv (E 6)) from (hE.below b).has 6 (by omega) (by omega))
  have L7 := Lib.hid (fun (w' : World) (b : Below w.heap.size w w') => show w'.cell? ⟨6, 0, none⟩ = some (errv (E 7)) from (hE.below b).has 7 (by omega) (by omega))
  have L8 := Lib.hid (fun (w' : World) (b : Below w.heap.size w w') => show w'.cell? ⟨7, 0, none⟩ = some (errv (E 8)) from (hE.below b).has 8 (by omega) (by omega))
  have L9 := Lib.hid (fun (w' : World) (b : Below w.heap.size w w') => show w'.cell? ⟨8, 0, none⟩ = some (errv (E 9)) from (hE.below b).has 9 (by omega) (by omega))
  have L10 := Lib.hid (fun (w' : World) (b : Below w.heap.size w w') => show w'.cell? ⟨9, 0, none⟩ = some (errv (E 10)) from (hE.below b).has 10 (by omega) (by omega))
  have L11 := Lib.hid (fun (w' : World) (b : Below w.heap.size w w') => show w'.cell? ⟨10, 0, none⟩ = some (errv (E 11)) from (hE.below b).has 11 (by omega) (by omega))
  have L12 := Lib.hid (fun (w' : World) (b : Below w.heap.size w w') => show w'.cell? ⟨11, 0, none⟩ = some (errv (E 12)) from (hE.below b).has 12 (by omega) (by omega))
  have b0 := below_al w (.cells #[.pointer none] 90)
  have HAS := Lib.hid (as_miss p ⟨w.heap.size, 0, none⟩ _ (hE.below b0).hand)
  have hand0 : True := trivial
  clear hE hp hne
  go_enter Tryz.func29, Tryz.ntmps29
  go_wp2_with fail
  refine HAS.out.mono ?_
  rintro e w1 ⟨rfl, b1'⟩
  have b1 := below_trans' b0 b1'
  have c1 := L1.out _ b1
  have c2 := L2.out _ b1
  have c3 := L3.out _ b1
  have c4 := L4.out _ b1
  have c5 := L5.out _ b1
  have c6 := L6.out _ b1
  have c7 := L7.out _ b1
  have c8 := L8.out _ b1
  have c9 := L9.out _ b1
  have c10 := L10.out _ b1
  have c11 := L11.out _ b1
  have c12 := L12.out _ b1
  unfold errv at c1 c2 c3 c4 c5 c6 c7 c8 c9 c10 c11 c12
  clear L1 L2 L3 L4 L5 L6 L7 L8 L9 L10 L11 L12 hand0
  go_wp2_with fail
  have ROW := heap_alloc_new w1 (.cells #[.iface 237 (.pointer (some (E 1))), .iface 237 (.pointer (some (E 2))), .iface 237 (.pointer (some (E 3))), .iface 237 (.pointer (some (E 4))), .iface 237 (.pointer (some (E 5))), .iface 237 (.pointer (some (E 6))), .iface 237 (.pointer (some (E 7))), .iface 237 (.pointer (some (E 8))), .iface 237 (.pointer (some (E 9))), .iface 237 (.pointer (some (E 10))), .iface 237 (.pointer (some (E 11))), .iface 237 (.pointer (some (E 12)))] 28)
  have b2 := b1.alloc b1.size (.cells #[.iface 237 (.pointer (some (E 1))), .iface 237 (.pointer (some (E 2))), .iface 237 (.pointer (some (E 3))), .iface 237 (.pointer (some (E 4))), .iface 237 (.pointer (some (E 5))), .iface 237 (.pointer (some (E 6))), .iface 237 (.pointer (some (E 7))), .iface 237 (.pointer (some (E 8))), .iface 237 (.pointer (some (E 9))), .iface 237 (.pointer (some (E 10))), .iface 237 (.pointer (some (E 11))), .iface 237 (.pointer (some (E 12)))] 28)
  have hsz : w1.heap.size < (w1.alloc (.cells #[.iface 237 (.pointer (some (E 1))), .iface 237 (.pointer (some (E 2))), .iface 237 (.pointer (some (E 3))), .iface 237 (.pointer (some (E 4))), .iface 237 (.pointer (some (E 5))), .iface 237 (.pointer (some (E 6))), .iface 237 (.pointer (some (E 7))), .iface 237 (.pointer (some (E 8))), .iface 237 (.pointer (some (E 9))), .iface 237 (.pointer (some (E 10))), .iface 237 (.pointer (some (E 11))), .iface 237 (.pointer (some (E 12)))] 28)).heap.size := by simp
  clear c1 c2 c3 c4 c5 c6 c7 c8 c9 c10 c11 c12
  generalize w1.alloc (.cells #[.iface 237 (.pointer (some (E 1))), .iface 237 (.pointer (some (E 2))), .iface 237 (.pointer (some (E 3))), .iface 237 (.pointer (some (E 4))), .iface 237 (.pointer (some (E 5))), .iface 237 (.pointer (some (E 6))), .iface 237 (.pointer (some (E 7))), .iface 237 (.pointer (some (E 8))), .iface 237 (.pointer (some (E 9))), .iface 237 (.pointer (some (E 10))), .iface 237 (.pointer (some (E 11))), .iface 237 (.pointer (some (E 12)))] 28) = w2 at ROW b2 hsz ⊢
  have RW := Lib.hid (fun k hk => row12 (f := fun k => .iface 237 (.pointer (some (E k)))) ROW k hk)
  have E2 := Lib.hid (HEE.out.below b2)
  have V2 := Lib.hid (show w2.heap[p.block]? = some (.cells cp tp (0, 0)) from (b2.block _ (lt_of_block HP.out)).trans HP.out)
  clear ROW
  go_loop [30, 5, 6, 3] (fun i _ _ at' => ∃ k : Nat, i = .int .i64 k ∧ k ≤ 12 ∧ at' = .int .i64 (-1)) (fun i _ _ _ => 12 - (intOf i).toNat)
  case atStart => exact ⟨0, rfl, by omega, rfl⟩
  case round =>
    obtain ⟨k, rfl, hk, rfl⟩ := hrel
    by_cases hlt : k < 12
    · have hltI : (k : Int) < 12 := by omega
      have hcell := RW.out k hlt
      obtain ⟨cb, tb, hb⟩ := E2.out.sent (k + 1) (by omega) (by omega)
      have IS := Lib.hid (is_other p (E (k + 1)) cp cb tp tb w2 (HNE.out (k + 1) (by omega) (by omega)) V2.out hb)
      have x1 : (0 : Int) ≤ k := by omega
      have x2 : (k : Int).toNat = k := by omega
      have HCK := Lib.hid (show k + 1 ≤ 12 by omega)
      clear hb
      go_wp2_with fail
      refine IS.out.mono ?_
      rintro e w4 ⟨rfl, rfl⟩
      go_wp2_with fail
      go_round
      case rel => exact ⟨k + 1, by go_num, HCK.out, rfl⟩
      case measure => simp [intOf]; omega
    · have hltI : ¬ (k : Int) < 12 := by omega
      go_wp2_with fail
      go_ret2
      exact ⟨rfl, b2⟩

set_option maxRecDepth 100000 in
set_option maxHeartbeats 1600000 in
theorem faulted_any (E : Nat → Addr) (v : Value) (c : Nat) (a : Int) (fc fa : Int) (w : World) (h : FErr E w v c a) (hE : Errs E w) (hc : c ≤ 12) :
    Calls Tryz.prog 14 #[v, .agg #[.int .i64 fc, .int .i64 fa]] w fun e w' => e = .returned (.bool (decide ((c : Int) = fc) && (decide (c = 0) || decide (a = fa)))) ∧ Below w.heap.size w w' := by
  have b0 := below_al w (.cells #[.int .i64 fc, .int .i64 fa] 42)
  have CA := Lib.hid (code_any E v c a _ (h.below b0) (hE.below b0) hc)
  have HC := Lib.hid (fun (w1 : World) (b : Below (w.alloc (.cells #[.int .i64 fc, .int .i64 fa] 42)).heap.size (w.alloc (.cells #[.int .i64 fc, .int .i64 fa] 42)) w1) =>
    show w1.cell? ⟨w.heap.size, 0, none⟩ = some (.int .i64 fc) ∧ w1.cell? ⟨w.heap.size, 1, none⟩ = some (.int .i64 fa) from
    ⟨(b.cell (p := ⟨w.heap.size, 0, none⟩) (by simp)).trans (by simp [World.cell?_alloc_new]), (b.cell (p := ⟨w.heap.size, 1, none⟩) (by simp)).trans (by simp [World.cell?_alloc_new])⟩)
  have B0 := Lib.hid b0
  clear h hE b0
  by_cases hk : (c : Int) = fc
  · subst hk
    by_cases h0 : c = 0
    · subst h0
      go_enter Tryz.func14, Tryz.ntmps14
      go_wp2_with (go_at_call 29; refine CA.out.mono ?_; rintro e w1 ⟨rfl, b1⟩; obtain ⟨d0, d1⟩ := HC.out w1 b1)
      go_ret
      exact ⟨by simp, below_trans' B0.out b1⟩
    · have h01 : ((c : Int) == 0) = false := by simp [h0]
      have h02 : decide (c = 0) = false := by simp [h0]
      rw [h02]
      clear h0 h02
      by_cases ha : a = fa
      · subst ha
        go_enter Tryz.func14, Tryz.ntmps14
        go_wp2_with (go_at_call 29; refine CA.out.mono ?_; rintro e w1 ⟨rfl, b1⟩; obtain ⟨d0, d1⟩ := HC.out w1 b1)
        go_ret
        exact ⟨by simp, below_trans' B0.out b1⟩
      · have h1 : (a == fa) = false := by simp [ha]
        have h2 : decide (a = fa) = false := by simp [ha]
        rw [h2]
        clear ha h2
        go_enter Tryz.func14, Tryz.ntmps14
        go_wp2_with (go_at_call 29; refine CA.out.mono ?_; rintro e w1 ⟨rfl, b1⟩; obtain ⟨d0, d1⟩ := HC.out w1 b1)
        go_ret
        exact ⟨by simp, below_trans' B0.out b1⟩
  · have h1 : ((c : Int) == fc) = false := by simp [hk]
    have h2 : decide ((c : Int) = fc) = false := by simp [hk]
    rw [h2]
    clear hk h2
    go_enter Tryz.func14, Tryz.ntmps14
    go_wp2_with (go_at_call 29; refine CA.out.mono ?_; rintro e w1 ⟨rfl, b1⟩; obtain ⟨d0, d1⟩ := HC.out w1 b1)
    go_ret
    exact ⟨by simp, below_trans' B0.out b1⟩
end Go.Proofs.YtdpoalbbcmkceaaGreatDoor
/- The statements' own tests of errors, where they hold. -/
namespace Go.Proofs.YtdpoalbbcmkceaaGreatDoor
open Go.RowKit
set_option linter.unusedVariables false

theorem faulted_yes (E : Nat → Addr) (v : Value) (c : Nat) (a : Int) (w : World) (h : FErr E w v c a) (hE : Errs E w) (hc : c ≤ 12) : Calls Tryz.prog 14 #[v, .agg #[.int .i64 c, .int .i64 a]] w fun e w' => e = .returned (.bool true) ∧ Below w.heap.size w w' := by
  have h := faulted_any E _ c a c a w h hE hc
  rw [show (decide ((c : Int) = (c : Int)) && (decide (c = 0) || decide (a = a))) = true by simp] at h
  exact h
end Go.Proofs.YtdpoalbbcmkceaaGreatDoor
/- What a row that lists the handle and the errors gives a walk. -/
namespace Go.Proofs.YtdpoalbbcmkceaaGreatDoor
open Go.RowKit Go.ChangeShapes
set_option linter.unusedVariables false

def hdat : DataW Unit := .iface "internal/reflectlite.rtype" (.agg [.ptr (.lit (.string [101, 114, 114, 111, 114]))])
theorem h_et : Tryz.prog.globalNamed "errors.errorType" = some 12 := by kernel_rfl
theorem h_rt : (Tryz.prog.cutTypes.find? (·.1 == "internal/reflectlite.rtype")).map (·.2) = some 181 := by kernel_rfl
theorem h_row : ((List.range 266).filter fun t => Tryz.prog.rowNamed t [101, 114, 114, 111, 114]) = [28] := by kernel_rfl
theorem h_size : Tryz.prog.types.size = 266 := by kernel_rfl
theorem h_entry (c : Nat) : (entry c).2.handleName? = none := by unfold entry; rfl
theorem hand_of {W : World} (h : handlesMet Tryz.prog [("errors.errorType", hdat)] W) : Hand W := by
  obtain ⟨name, u, ty, e1, e2, e3, e4, e5⟩ := h _ (List.mem_singleton.2 rfl)
  have en : name = [101, 114, 114, 111, 114] := (Option.some.inj e1).symm
  subst en
  obtain rfl := Option.some.inj (h_rt.symm.trans e2)
  have hm : ty ∈ (List.range 266).filter fun t => Tryz.prog.rowNamed t [101, 114, 114, 111, 114] := List.mem_filter.2 ⟨List.mem_range.2 (by rw [← h_size]; exact e3), e4⟩
  rw [h_row] at hm
  obtain rfl := List.mem_singleton.1 hm
  have hh : typeHandle Tryz.prog 28 = .pointer (some ⟨16, 28, none⟩) := by kernel_rfl
  rw [hh] at e5
  have := World.var?_cell h_et e5 0
  unfold Hand
  simpa using this
theorem f_none (l : List Nat) : (l.map entry).filter (fun x => x.2.handleName?.isSome) = [] := by
  rw [List.filter_eq_nil_iff]
  intro x hx
  obtain ⟨c, _, rfl⟩ := List.mem_map.1 hx
  rw [h_entry]; simp
theorem f_all (l : List Nat) : (l.map entry).filter (fun x => x.2.handleName?.isNone) = l.map entry := by
  rw [List.filter_eq_self]
  intro x hx
  obtain ⟨c, _, rfl⟩ := List.mem_map.1 hx
  rw [h_entry]; rfl
theorem laid_errs {L : List (String × DataW Unit)} {l : List Nat} {W : World} (e : L = ("errors.errorType", hdat) :: l.map entry) (h : laidMetH Tryz.prog L W) : laidMet Tryz.prog (l.map entry) W ∧ Hand W := by
  subst e
  have hs : (("errors.errorType", hdat) :: l.map entry).filter (fun x => x.2.handleName?.isSome) = [("errors.errorType", hdat)] := by
    rw [List.filter_cons_of_pos (by rfl), f_none]
  have hn : (("errors.errorType", hdat) :: l.map entry).filter (fun x => x.2.handleName?.isNone) = l.map entry := by
    rw [List.filter_cons_of_neg (by simp [hdat, DataW.handleName?]), f_all]
  unfold laidMetH at h
  rw [hs] at h
  simp only [hn] at h
  exact ⟨h.1, hand_of h.2⟩
end Go.Proofs.YtdpoalbbcmkceaaGreatDoor
