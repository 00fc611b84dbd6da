/- Texts of one proof, one behind the other: FilStep. -/
import Derived.Test.YtdpoalbbcmkceaaGreatDoorB38
import Derived.Test.YtdpoalbbcmkceaaGreatDoorB10
import Derived.Test.YtdpoalbbcmkceaaGreatDoorB11
import Derived.Test.YtdpoalbbcmkceaaGreatDoorB36
import Derived.Laws.StructEq
/- Contract of files.step. -/
namespace Go.Proofs.YtdpoalbbcmkceaaGreatDoor
open Go.RowKit
set_option linter.unusedVariables false

def PS.val (s : PS) : Value := .agg #[.string (bs s.k), .string (bs s.n)]
theorem PS.val_is (s : PS) : s.val = .agg #[.string (bs s.k), .string (bs s.n)] := rfl
attribute [irreducible] PS.val
theorem bs_kSend : bs kSend = ⟨#[115, 101, 110, 100]⟩ := by unfold bs kSend; rfl
theorem bs_kDrop : bs kDrop = ⟨#[100, 114, 111, 112]⟩ := by unfold bs kDrop; rfl
theorem bs_kKeep : bs kKeep = ⟨#[107, 101, 101, 112]⟩ := by unfold bs kKeep; rfl
theorem step_nil (y : PL) (t : List PL) : stepL [] (y :: t) = (⟨kDrop, y.n⟩, 0, 1) := rfl
theorem step_one (x : PL) (a : List PL) : stepL (x :: a) [] = (⟨kSend, x.n⟩, 1, 0) := rfl
theorem step_lt {x y : PL} {a t : List PL} (h : ltL x.n y.n = true) : stepL (x :: a) (y :: t) = (⟨kSend, x.n⟩, 1, 0) := by simp only [stepL]; rw [if_pos h]
theorem step_gt {x y : PL} {a t : List PL} (h : ltL y.n x.n = true) : stepL (x :: a) (y :: t) = (⟨kDrop, y.n⟩, 0, 1) := by simp only [stepL]; rw [if_neg (by rw [ltL_asymm h]; simp), if_pos h]
theorem step_same {x y : PL} {a t : List PL} (h : x = y) : stepL (x :: a) (y :: t) = (⟨kKeep, x.n⟩, 1, 1) := by subst h; simp only [stepL]; rw [if_neg (by simp [ltL_irrefl]), if_neg (by simp [ltL_irrefl])]; simp
theorem step_new {x y : PL} {a t : List PL} (h : x ≠ y) (hn : x.n = y.n) : stepL (x :: a) (y :: t) = (⟨kSend, x.n⟩, 1, 1) := by simp only [stepL]; rw [if_neg (by rw [hn, ltL_irrefl]; simp), if_neg (by rw [hn, ltL_irrefl]; simp), if_neg h]
theorem lcells_head {w : World} {v : Value} {x : PL} {l : List PL} (h : SliceIs w v 3 (lcells (x :: l))) :
    ∃ a n c, v = .slice (some a) n c ∧ n = l.length + 1 ∧ n ≤ c ∧ c ≤ maxLen ∧ w.cell? a = some (.string (bs x.n)) ∧ w.cell? (a.add 1) = some (.int .i64 x.N) ∧ w.cell? (a.add 2) = some (.int .u32 x.S) := by
  obtain ⟨s, n, c, rfl, hn, h1, h2, hg⟩ := h.get
  rw [lcells_len, List.length_cons] at hn
  obtain ⟨g0, g1, g2⟩ := lcells_get (x :: l) 0 (by simp)
  obtain ⟨a, rfl, d0⟩ := hg _ _ g0
  obtain ⟨a', e, d1⟩ := hg _ _ g1
  cases e
  obtain ⟨a', e, d2⟩ := hg _ _ g2
  cases e
  have e0 : a.add 0 = a := by cases a; rfl
  rw [Nat.zero_mul, e0] at d0
  exact ⟨a, n, c, rfl, by omega, h1, h2, d0, by simpa using d1, by simpa using d2⟩
theorem lcells_none {w : World} {v : Value} (h : SliceIs w v 3 (lcells [])) : ∃ s c, v = .slice s 0 c ∧ c ≤ maxLen := by
  obtain ⟨s, n, c, rfl, hn, h1, h2, hg⟩ := h.get
  rw [lcells_len, List.length_nil] at hn
  obtain rfl : n = 0 := by omega
  exact ⟨s, c, rfl, h2⟩

/-! ### two lines are compared -/
theorem ln_eq (s s' : ByteArray) (n n' : Int) (c c' : Nat) (w : World) : (Op.equalIn 10000 39 (.agg #[.string s, .int .i64 n, .int .u32 c]) (.agg #[.string s', .int .i64 n', .int .u32 c'])).run Tryz.prog w =
    if s.toList = s'.toList ∧ n = n' ∧ c = c' then .ok true w else .ok false w := by
  have u3 := Tryz.underlying3
  have u5 := Tryz.underlying37
  have u9 := Tryz.underlying9
  have hS : Tryz.prog.underlying 39 = some (.struct (Tryz.prog.fieldsOf 39)) := by kernel_rfl
  rw [show (10000 : Nat) = 9999 + 1 from rfl, run_equalIn_agg w 9999 39 _ _ hS (by kernel_rfl)]
  simp only [Program.fieldsOf, Tryz.underlying39]
  go_simp
  have hk : ((c : Int) = (c' : Int)) ↔ c = c' := by omega
  simp only [hk]
  by_cases h1 : s.toList = s'.toList <;> by_cases h2 : n = n' <;> by_cases h3 : c = c' <;> simp [h1, h2, h3]
theorem ln_same (x : PL) (w : World) : (Op.equalIn 10000 39 (.agg #[.string (bs x.n), .int .i64 x.N, .int .u32 x.S]) (.agg #[.string (bs x.n), .int .i64 x.N, .int .u32 x.S])).run Tryz.prog w = .ok true w := by
  rw [ln_eq, if_pos ⟨rfl, rfl, rfl⟩]
theorem ln_other {x y : PL} (h : x ≠ y) (w : World) : (Op.equalIn 10000 39 (.agg #[.string (bs x.n), .int .i64 x.N, .int .u32 x.S]) (.agg #[.string (bs y.n), .int .i64 y.N, .int .u32 y.S])).run Tryz.prog w = .ok false w := by
  rw [ln_eq, if_neg]
  rintro ⟨h1, h2, h3⟩
  rw [bs_tl', bs_tl'] at h1
  exact h (by cases x; cases y; simp_all)
theorem lnb_same (x : PL) (w : World) : (binOp .eql 39 (.agg #[.string (bs x.n), .int .i64 x.N, .int .u32 x.S]) (.agg #[.string (bs x.n), .int .i64 x.N, .int .u32 x.S])).run Tryz.prog w = .ok (.bool true) w := by
  have h := ln_same x w
  go_simp
theorem lnb_other {x y : PL} (h : x ≠ y) (w : World) : (binOp .eql 39 (.agg #[.string (bs x.n), .int .i64 x.N, .int .u32 x.S]) (.agg #[.string (bs y.n), .int .i64 y.N, .int .u32 y.S])).run Tryz.prog w = .ok (.bool false) w := by
  have h2 := ln_other h w
  go_simp
theorem lnb_not (x : PL) (w : World) : (binOp .neq 39 (.agg #[.string (bs x.n), .int .i64 x.N, .int .u32 x.S]) (.agg #[.string (bs x.n), .int .i64 x.N, .int .u32 x.S])).run Tryz.prog w = .ok (.bool false) w := by
  have h := ln_same x w
  go_simp

set_option maxRecDepth 100000 in
set_option maxHeartbeats 3200000 in
theorem step_left (y : PL) (t : List PL) (v1 v2 : Value) (w : World) (h1 : SliceIs w v1 3 (lcells [])) (h2 : SliceIs w v2 3 (lcells (y :: t))) :
    Calls Tryz.prog 83 #[v1, v2] w fun e w' => e = .returned (.tuple #[PS.val ⟨kDrop, y.n⟩, .int .i64 0, .int .i64 1]) ∧ Below w.heap.size w w' := by
  obtain ⟨s1, c1, rfl, k1⟩ := lcells_none h1
  obtain ⟨a2, n2, c2, rfl, hn2, k2, m2, d0, d1, d2⟩ := lcells_head h2
  rw [PS.val_is, bs_kDrop]
  unfold maxLen at m2 k1
  have x0 : (0 : Int) < n2 := by omega
  have x1 : ¬ (n2 : Int) = 0 := by omega
  have x2 : ((n2 : Int) == 0) = false := by rw [beq_eq_false_iff_ne]; exact x1
  have D0 := fun o => cell_kept d0 (wb_alloc w o)
  clear h1 h2 hn2
  go_enter Tryz.func83, Tryz.ntmps83
  go_wp2_with fail
  go_returns
  exact ⟨rfl, wb_alloc _ _⟩
set_option maxRecDepth 100000 in
set_option maxHeartbeats 3200000 in
theorem step_right (x : PL) (a : List PL) (v1 v2 : Value) (w : World) (h1 : SliceIs w v1 3 (lcells (x :: a))) (h2 : SliceIs w v2 3 (lcells [])) :
    Calls Tryz.prog 83 #[v1, v2] w fun e w' => e = .returned (.tuple #[PS.val ⟨kSend, x.n⟩, .int .i64 1, .int .i64 0]) ∧ Below w.heap.size w w' := by
  obtain ⟨a2, n2, c2, rfl, hn2, k2, m2, d0, d1, d2⟩ := lcells_head h1
  obtain ⟨s1, c1, rfl, k1⟩ := lcells_none h2
  rw [PS.val_is, bs_kSend]
  unfold maxLen at m2 k1
  have x0 : (0 : Int) < n2 := by omega
  have x1 : ¬ (n2 : Int) = 0 := by omega
  have x2 : ((n2 : Int) == 0) = false := by rw [beq_eq_false_iff_ne]; exact x1
  have D0 := fun o => cell_kept d0 (wb_alloc w o)
  clear h1 h2 hn2
  go_enter Tryz.func83, Tryz.ntmps83
  go_wp2_with fail
  go_returns
  exact ⟨rfl, wb_alloc _ _⟩
theorem set2s {w : World} {b : Nat} {x y : Value} {t : TypeId} (h : w.heap[b]? = some (.cells #[x, y] t (0, 0))) (u v : Value) :
    ((w.setCell ⟨b, 0, none⟩ u).setCell ⟨b, 1, none⟩ v).cell? ⟨b, 0, none⟩ = some u ∧ ((w.setCell ⟨b, 0, none⟩ u).setCell ⟨b, 1, none⟩ v).cell? ⟨b, 1, none⟩ = some v := by
  have h1 := set_at (k := 0) (u := u) h
  have h2 := set_at (k := 1) (u := v) h1
  constructor
  · simp [World.cell?, h2]
  · simp [World.cell?, h2]
set_option maxRecDepth 100000 in
set_option maxHeartbeats 3200000 in
theorem step_both (x y : PL) (a t : List PL) (v1 v2 : Value) (w : World) (h1 : SliceIs w v1 3 (lcells (x :: a))) (h2 : SliceIs w v2 3 (lcells (y :: t))) :
    Calls Tryz.prog 83 #[v1, v2] w fun e w' => e = .returned (.tuple #[PS.val (stepL (x :: a) (y :: t)).1, .int .i64 (stepL (x :: a) (y :: t)).2.1, .int .i64 (stepL (x :: a) (y :: t)).2.2]) ∧ Below w.heap.size w w' := by
  obtain ⟨a1, n1, c1, rfl, hn1, k1, m1, d0, d1, d2⟩ := lcells_head h1
  obtain ⟨a2, n2, c2, rfl, hn2, k2, m2, e0, e1, e2⟩ := lcells_head h2
  unfold maxLen at m1 m2
  have x0 : (0 : Int) < n1 := by omega
  have x1 : ¬ (n1 : Int) = 0 := by omega
  have x2 : ((n1 : Int) == 0) = false := by rw [beq_eq_false_iff_ne]; exact x1
  have y0 : (0 : Int) < n2 := by omega
  have y1 : ¬ (n2 : Int) = 0 := by omega
  have y2 : ((n2 : Int) == 0) = false := by rw [beq_eq_false_iff_ne]; exact y1
  have B0 := Lib.hid (wb_alloc w (.cells #[.string ⟨#[]⟩, .string ⟨#[]⟩] 106))
  have D0 := cell_kept d0 B0.out
  have D1 := cell_kept d1 B0.out
  have D2 := cell_kept d2 B0.out
  have E0 := cell_kept e0 B0.out
  have E1 := cell_kept e1 B0.out
  have E2 := cell_kept e2 B0.out
  have D1 := (show _ = _ from D1 : (w.alloc (.cells #[.string ⟨#[]⟩, .string ⟨#[]⟩] 106)).cell? ⟨a1.block, a1.off + 1, none⟩ = some (.int .i64 x.N))
  have D2 := (show _ = _ from D2 : (w.alloc (.cells #[.string ⟨#[]⟩, .string ⟨#[]⟩] 106)).cell? ⟨a1.block, a1.off + 2, none⟩ = some (.int .u32 x.S))
  have E1 := (show _ = _ from E1 : (w.alloc (.cells #[.string ⟨#[]⟩, .string ⟨#[]⟩] 106)).cell? ⟨a2.block, a2.off + 1, none⟩ = some (.int .i64 y.N))
  have E2 := (show _ = _ from E2 : (w.alloc (.cells #[.string ⟨#[]⟩, .string ⟨#[]⟩] 106)).cell? ⟨a2.block, a2.off + 2, none⟩ = some (.int .u32 y.S))
  have x0n : 0 < n1 := by omega
  have y0n : 0 < n2 := by omega
  have CM := Lib.hid (fun w' => Tryz.strings_Compare (bs x.n) (bs y.n) w')
  simp only [bs_list] at CM
  have hz := heap_alloc_new w (.cells #[.string ⟨#[]⟩, .string ⟨#[]⟩] 106)
  clear h1 h2 hn1 hn2 d0 d1 d2 e0 e1 e2
  rcases ltL_tri x.n y.n with h | h | h
  · rw [cmp_lt h] at CM
    rw [step_lt h, PS.val_is, bs_kSend]
    clear h
    go_enter Tryz.func83, Tryz.ntmps83
    go_wp2_with fail
    generalize w.alloc (.cells #[.string ⟨#[]⟩, .string ⟨#[]⟩] 106) = w1 at *
    have f0 : w1.frozen? ⟨w.heap.size, 0, none⟩ = false := by simp [World.frozen?, hz]
    have f1 : w1.frozen? ⟨w.heap.size, 1, none⟩ = false := by simp [World.frozen?, hz]
    have z0 : w1.cell? ⟨w.heap.size, 0, none⟩ = some (.string ⟨#[]⟩) := by simp [World.cell?, hz]
    have z1 : w1.cell? ⟨w.heap.size, 1, none⟩ = some (.string ⟨#[]⟩) := by simp [World.cell?, hz]
    obtain ⟨r0, r1⟩ := set2s hz (.string ⟨#[115, 101, 110, 100]⟩) (.string (bs x.n))
    have bb := (B0.out.setCell (p := ⟨w.heap.size, 0, none⟩) (Nat.le_refl _) (.string ⟨#[115, 101, 110, 100]⟩)).setCell (p := ⟨w.heap.size, 1, none⟩) (Nat.le_refl _) (.string (bs x.n))
    clear hz
    go_region_law (go_simp; go_at_call 115; refine (CM.out _).mono ?_; rintro e w2 ⟨rfl, rfl⟩)
    all_goals
      go_wp2_with fail
      refine bodyPost_ret (by simp [results, Tryz.results83, go_sem, r0, r1]; try rfl) rfl ?_
      exact ⟨rfl, by first | exact below_drewN bb 1 | exact below_drewN bb _⟩
  · rw [show Lib.compareBytes x.n y.n = 0 by rw [h, cmp_eq]] at CM
    by_cases hxy : x = y
    · subst hxy
      have EQ := lnb_same x
      rw [step_same rfl, PS.val_is, bs_kKeep]
      clear h
      go_enter Tryz.func83, Tryz.ntmps83
      go_wp2_with fail
      generalize w.alloc (.cells #[.string ⟨#[]⟩, .string ⟨#[]⟩] 106) = w1 at *
      have f0 : w1.frozen? ⟨w.heap.size, 0, none⟩ = false := by simp [World.frozen?, hz]
      have f1 : w1.frozen? ⟨w.heap.size, 1, none⟩ = false := by simp [World.frozen?, hz]
      have z0 : w1.cell? ⟨w.heap.size, 0, none⟩ = some (.string ⟨#[]⟩) := by simp [World.cell?, hz]
      have z1 : w1.cell? ⟨w.heap.size, 1, none⟩ = some (.string ⟨#[]⟩) := by simp [World.cell?, hz]
      have rr := fun n => set2s (show (w1.drewN n).heap[w.heap.size]? = _ from hz) (.string ⟨#[107, 101, 101, 112]⟩) (.string (bs x.n))
      have r0 := fun n => (rr n).1
      have r1 := fun n => (rr n).2
      have bb := (B0.out.setCell (p := ⟨w.heap.size, 0, none⟩) (Nat.le_refl _) (.string ⟨#[107, 101, 101, 112]⟩)).setCell (p := ⟨w.heap.size, 1, none⟩) (Nat.le_refl _) (.string (bs x.n))
      clear hz
      go_region_law (go_simp; go_at_call 115; refine (CM.out _).mono ?_; rintro e w2 ⟨rfl, rfl⟩)
      all_goals
        go_wp2_with fail
        go_quiet (fail)
        go_wp2_with fail
        refine bodyPost_ret (by simp [results, Tryz.results83, go_sem, r0, r1]; try rfl) rfl ?_
        exact ⟨rfl, by first | exact below_drewN bb 1 | exact below_drewN bb _⟩
    · have EQ := lnb_other hxy
      rw [step_new hxy h, PS.val_is, bs_kSend]
      clear h hxy
      go_enter Tryz.func83, Tryz.ntmps83
      go_wp2_with fail
      generalize w.alloc (.cells #[.string ⟨#[]⟩, .string ⟨#[]⟩] 106) = w1 at *
      have f0 : w1.frozen? ⟨w.heap.size, 0, none⟩ = false := by simp [World.frozen?, hz]
      have f1 : w1.frozen? ⟨w.heap.size, 1, none⟩ = false := by simp [World.frozen?, hz]
      have z0 : w1.cell? ⟨w.heap.size, 0, none⟩ = some (.string ⟨#[]⟩) := by simp [World.cell?, hz]
      have z1 : w1.cell? ⟨w.heap.size, 1, none⟩ = some (.string ⟨#[]⟩) := by simp [World.cell?, hz]
      have rr := fun n => set2s (show (w1.drewN n).heap[w.heap.size]? = _ from hz) (.string ⟨#[115, 101, 110, 100]⟩) (.string (bs x.n))
      have r0 := fun n => (rr n).1
      have r1 := fun n => (rr n).2
      have bb := (B0.out.setCell (p := ⟨w.heap.size, 0, none⟩) (Nat.le_refl _) (.string ⟨#[115, 101, 110, 100]⟩)).setCell (p := ⟨w.heap.size, 1, none⟩) (Nat.le_refl _) (.string (bs x.n))
      clear hz
      go_region_law (go_simp; go_at_call 115; refine (CM.out _).mono ?_; rintro e w2 ⟨rfl, rfl⟩)
      all_goals
        go_wp2_with fail
        go_quiet (fail)
        go_wp2_with fail
        refine bodyPost_ret (by simp [results, Tryz.results83, go_sem, r0, r1]; try rfl) rfl ?_
        exact ⟨rfl, by first | exact below_drewN bb 1 | exact below_drewN bb _⟩
  · rw [cmp_gt h] at CM
    rw [step_gt h, PS.val_is, bs_kDrop]
    clear h
    go_enter Tryz.func83, Tryz.ntmps83
    go_wp2_with fail
    generalize w.alloc (.cells #[.string ⟨#[]⟩, .string ⟨#[]⟩] 106) = w1 at *
    have f0 : w1.frozen? ⟨w.heap.size, 0, none⟩ = false := by simp [World.frozen?, hz]
    have f1 : w1.frozen? ⟨w.heap.size, 1, none⟩ = false := by simp [World.frozen?, hz]
    have z0 : w1.cell? ⟨w.heap.size, 0, none⟩ = some (.string ⟨#[]⟩) := by simp [World.cell?, hz]
    have z1 : w1.cell? ⟨w.heap.size, 1, none⟩ = some (.string ⟨#[]⟩) := by simp [World.cell?, hz]
    obtain ⟨r0, r1⟩ := set2s hz (.string ⟨#[100, 114, 111, 112]⟩) (.string (bs y.n))
    have bb := (B0.out.setCell (p := ⟨w.heap.size, 0, none⟩) (Nat.le_refl _) (.string ⟨#[100, 114, 111, 112]⟩)).setCell (p := ⟨w.heap.size, 1, none⟩) (Nat.le_refl _) (.string (bs y.n))
    clear hz
    go_region_law (go_simp; go_at_call 115; refine (CM.out _).mono ?_; rintro e w2 ⟨rfl, rfl⟩)
    all_goals
      go_wp2_with fail
      refine bodyPost_ret (by simp [results, Tryz.results83, go_sem, r0, r1]; try rfl) rfl ?_
      exact ⟨rfl, by first | exact below_drewN bb 1 | exact below_drewN bb _⟩
theorem flstep_any (a t : List PL) (v1 v2 : Value) (w : World) (h1 : SliceIs w v1 3 (lcells a)) (h2 : SliceIs w v2 3 (lcells t)) (hne : ¬ (a = [] ∧ t = [])) :
    Calls Tryz.prog 83 #[v1, v2] w fun e w' => e = .returned (.tuple #[PS.val (stepL a t).1, .int .i64 (stepL a t).2.1, .int .i64 (stepL a t).2.2]) ∧ Below w.heap.size w w' := by
  cases a with
  | nil =>
    cases t with
    | nil => exact absurd ⟨rfl, rfl⟩ hne
    | cons y t => rw [step_nil]; exact step_left y t v1 v2 w h1 h2
  | cons x a =>
    cases t with
    | nil => rw [step_one]; exact step_right x a v1 v2 w h1 h2
    | cons y t => exact step_both x y a t v1 v2 w h1 h2
end Go.Proofs.YtdpoalbbcmkceaaGreatDoor
