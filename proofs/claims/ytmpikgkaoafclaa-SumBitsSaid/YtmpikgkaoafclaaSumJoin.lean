/- Contracts of sum.times, sum.Join, and of the reference's JoinSums. -/
import Derived.Test.YtmpikgkaoafclaaSum
import Derived.Deep.WholeRow
import Derived.Laws.CopyOwn
import Derived.Deep.RegionWith
import Derived.Deep.DeepCutAuto
namespace Go.Proofs.Ytmpikgkaoafclaa
open Go.RowKit

/-- the array of 32 numbers -/
def arr (m : Nat → Nat) : Array Value := ((List.range 32).map fun i => Value.int .u32 (m i)).toArray
theorem arr_size (m : Nat → Nat) : (arr m).size = 32 := by simp [arr]
theorem arr_at (m : Nat → Nat) (i : Nat) (h : i < 32) : (arr m)[i]? = some (.int .u32 (m i)) := by simp [arr, h]
attribute [irreducible] arr

set_option maxHeartbeats 400000 in
theorem times_any (m : Nat → Nat) (c : Nat) (w : World) (hc : c < 4294967296) (hm : ∀ i, i < 32 → m i < 4294967296) :
    Calls Try.prog 30 #[.agg (arr m), .int .u32 c] w fun e w' => e = .returned (.int .u32 (ctimes m c 32)) ∧ w' = w.alloc (.cells (arr m) 44) := by
  go_enter Try.func30, Try.ntmps30
  go_wp2_with fail
  go_loop [5, 6, 7] (fun x _ i => ∃ j : Nat, j ≤ 32 ∧ i = .int .i64 j ∧ x = .int .u32 (ctimes m c j)) (fun _ _ i => 32 - (intOf i).toNat)
  case atStart => exact ⟨0, by omega, rfl, by simp [ctimes]⟩
  case round =>
    obtain ⟨j, hj, rfl, rfl⟩ := hrel
    by_cases hlt : j < 32
    · have hcell : (w.alloc (.cells (arr m) 44)).cell? ⟨w.heap.size, j, none⟩ = some (.int .u32 (m j)) := by
        rw [World.cell?_alloc_at _ _ _ _ rfl, arr_at m j hlt]
      have hx := ctimes_lt m c j (fun i hi => hm i (by omega))
      have hbit := bit_walk c j hc
      have hsucc := Lib.hid (ctimes_succ m c j)
      by_cases hb : c / 2 ^ j % 2 = 1
      · have hw : (bits .and .u32 ((c : Int) / 2 ^ j) 1 == 1) = true := by rw [hbit, hb]; rfl
        have hr : ctimes m c j ^^^ m j = ctimes m c (j + 1) := by rw [hsucc.out, if_pos hb]
        have hxor := u32_xor_nat (ctimes m c j) (m j) hx (hm j hlt)
        rw [hr] at hxor
        clear hbit hr hsucc hb
        go_wp2
        go_round
        case rel => exact ⟨j + 1, by omega, by go_num, rfl⟩
        case measure => simp [intOf]; omega
      · have hw : (bits .and .u32 ((c : Int) / 2 ^ j) 1 == 1) = false := by
          rw [hbit, show c / 2 ^ j % 2 = 0 by omega]; rfl
        have hr : ctimes m c j = ctimes m c (j + 1) := by rw [hsucc.out, if_neg hb]
        have HR := Lib.hid hr
        clear hbit hr hsucc hb
        go_wp2
        go_round
        case rel => exact ⟨j + 1, by omega, by go_num, by rw [← HR.out]⟩
        case measure => simp [intOf]; omega
    · have h32 : j = 32 := by omega
      subst h32
      go_wp2
      go_ret
      exact ⟨rfl, rfl⟩

/-- the table of what a number of steps makes of each bit -/
def ft (e : Nat) : Array Value := arr fun i => citer e (2 ^ i)
theorem ft_size (e : Nat) : (ft e).size = 32 := by unfold ft; exact arr_size _
theorem ft_at (e i : Nat) (h : i < 32) : (ft e)[i]? = some (.int .u32 (citer e (2 ^ i))) := by unfold ft; exact arr_at _ i h
theorem pow_lt (i : Nat) (h : i < 32) : 2 ^ i < 4294967296 := by
  have := Nat.pow_lt_pow_right (show 1 < 2 by decide) h
  simpa using this

/-- block g is an array of 32 numbers, of which the first k are known -/
def Part (w : World) (g T e k : Nat) : Prop := ∃ cs : Array Value, w.heap[g]? = some (.cells cs T (0, 0)) ∧ cs.size = 32 ∧ ∀ i, i < k → cs[i]? = some (.int .u32 (citer e (2 ^ i)))
theorem Part.full {w : World} {g T e : Nat} (h : Part w g T e 32) : w.heap[g]? = some (.cells (ft e) T (0, 0)) := by
  obtain ⟨cs, h1, h2, h3⟩ := h
  rw [h1]
  have : cs = ft e := by
    apply Array.ext
    · rw [h2, ft_size]
    · intro i hi1 hi2
      have a := h3 i (by omega)
      have b := ft_at e i (by omega)
      rw [Array.getElem?_eq_getElem hi1] at a
      rw [Array.getElem?_eq_getElem hi2] at b
      exact Option.some.inj (a.trans b.symm)
  rw [this]
theorem Part.of_full {w : World} {g T e : Nat} (h : w.heap[g]? = some (.cells (ft e) T (0, 0))) : Part w g T e 32 := ⟨_, h, ft_size e, fun i hi => ft_at e i hi⟩
theorem Part.zero (w : World) (cs : Array Value) (T e : Nat) (h : cs.size = 32) : Part (w.alloc (.cells cs T)) w.heap.size T e 0 := ⟨cs, heap_alloc_new w _, h, fun i hi => by omega⟩
theorem Part.store {w : World} {g T e k : Nat} (h : Part w g T e k) (hk : k < 32) {v : Nat} (hv : v = citer e (2 ^ k)) : Part (w.setCell ⟨g, k, none⟩ (.int .u32 (v : Nat))) g T e (k + 1) := by
  obtain ⟨cs, h1, h2, h3⟩ := h
  subst hv
  refine ⟨cs.setIfInBounds k (.int .u32 (citer e (2 ^ k))), heap_setCell_same w g k cs T _ h1, by simp [h2], fun i hi => ?_⟩
  by_cases hik : k = i
  · subst hik; simp [h2, hk]
  · rw [Array.getElem?_setIfInBounds_ne hik]; exact h3 i (by omega)
theorem Part.cell {w : World} {g T e k : Nat} (h : Part w g T e k) (j : Nat) (hj : j < 32) : (∃ v, w.cell? ⟨g, j, none⟩ = some v) ∧ w.frozen? ⟨g, j, none⟩ = false := by
  obtain ⟨cs, h1, h2, _⟩ := h
  refine ⟨⟨cs[j]'(by omega), ?_⟩, frozen_of_row w g j cs T h1⟩
  rw [cell_of_row w g j cs T _ h1, Array.getElem?_eq_getElem]
theorem Part.lt {w : World} {g T e k : Nat} (h : Part w g T e k) : g < w.heap.size := by
  obtain ⟨cs, h1, _, _⟩ := h
  exact (Array.getElem?_eq_some_iff.1 h1).1
theorem Part.alloc {w : World} {g T e k : Nat} (h : Part w g T e k) (o : Obj) : Part (w.alloc o) g T e k := by
  obtain ⟨cs, h1, h2, h3⟩ := h
  exact ⟨cs, by rw [Below.heap_alloc w o g (Part.lt ⟨cs, h1, h2, h3⟩)]; exact h1, h2, h3⟩
theorem Part.drew {w : World} {g T e k : Nat} (h : Part w g T e k) : Part w.drew g T e k := h
theorem Part.far {w : World} {g T e k : Nat} (h : Part w g T e k) {a : Addr} (hg : g ≠ a.block) (v : Value) : Part (w.setCell a v) g T e k := by
  obtain ⟨cs, h1, h2, h3⟩ := h
  exact ⟨cs, by rw [heap_setCell_other w a g v hg]; exact h1, h2, h3⟩
theorem load_row {P : Program} (w : World) (g t n : Nat) (c : Array Value) (hg : w.heap[g]? = some (.cells c t (0, 0))) (hn : c.size = n) :
    (loadCellsFrom ⟨g, 0, none⟩ 0 n #[]).run P w = .ok c w := by
  subst hn
  have := run_loadCells_list (P := P) w ⟨g, 0, none⟩ c.toList (fun j v hv => by
    have hadd : (⟨g, 0, none⟩ : Addr).add j = ⟨g, j, none⟩ := by unfold Addr.add; split <;> simp_all
    rw [hadd, cell_of_row _ _ j c t (0, 0) hg]
    simpa using hv)
  simpa [loadCells] using this
theorem times_ft (e c : Nat) (w : World) (hc : c < 4294967296) :
    Calls Try.prog 30 #[.agg (ft e), .int .u32 c] w fun e' w' => e' = .returned (.int .u32 (citer e c)) ∧ w' = w.alloc (.cells (ft e) 44) := by
  have h := times_any (fun i => citer e (2 ^ i)) c w hc (fun i hi => citer_lt e (pow_lt i hi))
  rw [ctimes_all e _ c hc (fun i _ => rfl)] at h
  exact h
theorem isAgg44 (w : World) : (isAgg 44).run Try.prog w = .ok true w := by kernel_rfl
theorem sizeOf44 (w : World) : (sizeOf 44).run Try.prog w = .ok 32 w := by kernel_rfl
/-- a row that is loaded, folded: the walk does not open it cell by cell -/
def ldc (P : Program) (a : Addr) (n : Nat) (w : World) : Result (Array Value) := (loadCellsFrom a 0 n #[]).run P w
theorem ldc_fold (P : Program) (a : Addr) (n : Nat) (w : World) : (loadCellsFrom a 0 n #[]).run P w = ldc P a n w := rfl
theorem ld44 (P : Program) (w : World) (g e : Nat) (h : w.heap[g]? = some (.cells (ft e) 44 (0, 0))) : ldc P ⟨g, 0, none⟩ 32 w = .ok (ft e) w :=
  load_row w g _ 32 _ h (ft_size e)
theorem ft_one (e : Nat) : (ft e).all (·.oneCell') = true := by
  rw [Array.all_eq_true_iff_forall_mem]
  intro v hv
  obtain ⟨i, hi, rfl⟩ := Array.mem_iff_getElem.1 hv
  have h := ft_at e i (by rw [ft_size] at hi; exact hi)
  rw [Array.getElem?_eq_getElem hi] at h
  rw [Option.some.inj h]; rfl
theorem st44 (P : Program) (w : World) (g e : Nat) (c : Array Value) (h : w.heap[g]? = some (.cells c 44 (0, 0))) (h2 : c.size = 32) :
    (storeCells ⟨g, 0, none⟩ (ft e).toList 0).run P w = .ok () (w.setRow g (ft e)) := by
  have := run_storeCells_from (P := P) g _ (ft e).toList 0 c w h (by have := ft_size e; simp; omega) (fun v hv => (Array.all_eq_true_iff_forall_mem.1 (ft_one e)) v (by simpa using hv))
  rw [this]
  simp
attribute [local go_sem ↓] ldc_fold
theorem odd_step (e y : Nat) (k : Int) (h0 : 0 < k) (h : k % 2 = 1) : citer (2 * e * (k / 2).toNat) (citer e y) = citer (e * k.toNat) y := by
  rw [← citer_add]
  congr 1
  obtain ⟨m, hm⟩ : ∃ m : Nat, (k / 2).toNat = m := ⟨_, rfl⟩
  have : k.toNat = 2 * m + 1 := by omega
  rw [hm, this, Nat.mul_add, ← Nat.mul_assoc, Nat.mul_comm e 2]
  omega
theorem even_step (e : Nat) (k : Int) (h0 : 0 < k) (h : k % 2 ≠ 1) : 2 * e * (k / 2).toNat = e * k.toNat := by
  obtain ⟨m, hm⟩ : ∃ m : Nat, (k / 2).toNat = m := ⟨_, rfl⟩
  have : k.toNat = 2 * m := by omega
  rw [hm, this, ← Nat.mul_assoc, Nat.mul_comm e 2]
theorem citer_two (e c : Nat) : citer e (citer e c) = citer (2 * e) c := by rw [← citer_add, Nat.two_mul]
theorem row_cell {w : World} {g e : Nat} {T : TypeId} (h : w.heap[g]? = some (.cells (ft e) T (0, 0))) (i : Nat) (hi : i < 32) : w.cell? ⟨g, i, none⟩ = some (.int .u32 (citer e (2 ^ i))) := by
  rw [cell_of_row w g i _ _ _ h, ft_at e i hi]
theorem pow_walk (j : Nat) (h : j < 32) : ((2 : Int) ^ j % 4294967296) = ((2 ^ j : Nat) : Int) := by
  have h1 := pow_lt j h
  have h2 : ((2 : Int) ^ j) = ((2 ^ j : Nat) : Int) := by simp
  rw [h2]
  generalize (2 ^ j : Nat) = x at *
  omega
attribute [irreducible] ft Part ldc

set_option maxRecDepth 100000 in
set_option maxHeartbeats 1600000 in
theorem sumJoin_any (a b : Nat) (n : Int) (w : World) (ha : a < 4294967296) (hb : b < 4294967296) (hn : n ≤ 4611686018427387904) :
    Calls Try.prog 22 #[.int .u32 a, .int .u32 b, .int .i64 n] w fun e w' => e = .returned (.int .u32 ((citer (8 * n.toNat) a ^^^ b : Nat) : Int)) ∧ Below w.heap.size w w' := by
  go_enter Try.func22, Try.ntmps22
  go_wp2_with fail
  go_loopw [9, 12, 17] (fun _ i _ wr => ∃ j : Nat, j ≤ 32 ∧ i = .int .i64 j ∧ Part wr w.heap.size 44 8 j ∧ Below w.heap.size w wr) (fun _ i _ _ => 32 - (intOf i).toNat)
  case atStart => exact ⟨0, by omega, rfl, Part.zero w _ _ _ (by simp), (Below.refl _ _).alloc (Nat.le_refl _) _⟩
  case round =>
    obtain ⟨j, hj, rfl, hpart, hbel⟩ := hrel
    by_cases hlt : j < 32
    · obtain ⟨⟨v0, hcell⟩, hfr⟩ := hpart.cell j hlt
      have hp2 := pow_lt j hlt
      obtain ⟨p, hp⟩ : ∃ p : Nat, p = 2 ^ j := ⟨_, rfl⟩
      have hpw : (2 : Int) ^ j % 4294967296 = (p : Int) := by rw [hp]; exact pow_walk j hlt
      have hp3 : p < 4294967296 := by rw [hp]; exact hp2
      have HP := Lib.hid hp
      clear hp hp2
      have hltI : (j : Int) < 32 := by omega
      go_wp2_with fail
      have HPW := Lib.hid hpw
      clear hpw
      go_loop [9, 17] (fun c q => ∃ k : Nat, k ≤ 8 ∧ q = .int .i64 k ∧ c = .int .u32 (citer k p)) (fun _ q => 8 - (intOf q).toNat)
      case atStart => exact ⟨0, by omega, rfl, by first | (simp [citer]; done) | (rw [HPW.out]; simp [citer])⟩
      case round =>
        obtain ⟨k, hk, rfl, rfl⟩ := hrel
        have hz := citer_lt k hp3
        by_cases hlt8 : k < 8
        · have hs8 := Lib.hid (citer_succ k p)
          go_wp2_with (go_at_call 28; refine (step_any _ _ hz).mono ?_; rintro e w' ⟨rfl, rfl⟩)
          go_round
          case rel => exact ⟨k + 1, by omega, by go_num, by rw [hs8.out]⟩
          case measure => simp [intOf]; omega
        · have h8 : k = 8 := by omega
          subst h8
          go_wp2_with fail
          go_roundw
          case rel => exact ⟨j + 1, by omega, by go_num, hpart.store hlt (by rw [HP.out]), hbel.setCell (Nat.le_refl _) _⟩
          case measure => simp [intOf]; omega
    · have h32 : j = 32 := by omega
      rw [h32] at hpart
      have hge : ¬ (j : Int) < 32 := by omega
      clear h32
      go_wp2_with fail
      obtain ⟨wo, rfl⟩ : ∃ wo : World, wo = wr := ⟨_, rfl⟩
      go_loopw [0, 2, 10, 11] (fun x m _ _ wr => ∃ (e : Nat) (y : Nat) (k : Int), m = .int .i64 k ∧ x = .int .u32 (y : Nat) ∧ y < 4294967296 ∧ citer (e * k.toNat) y = citer (8 * n.toNat) a ∧ k ≤ max n 0 ∧ Part wr w.heap.size 44 e 32 ∧ Below w.heap.size w wr) (fun _ m _ _ _ => (intOf m).toNat)
      case atStart => exact ⟨8, a, n, rfl, rfl, ha, rfl, by omega, hpart, hbel⟩
      case round =>
        obtain ⟨e, y, k, rfl, rfl, hy, hey, hkn, hpart2, hbel2⟩ := hrel
        by_cases hk0 : 0 < k
        · have hfull := hpart2.full
          have hld := ld44 Try.prog wr w.heap.size e hfull
          have hk0' : (0 : Int) ≤ k := by omega
          have hkb : k ≤ 4611686018427387904 := by omega
          have HEY := Lib.hid hey
          have HF := Lib.hid hfull
          have h44a := isAgg44
          have h44s := sizeOf44
          clear hey hpart hbel hfull
          go_upto_if 32 with (fail)
          go_cut [0] (fun x wz => ∃ y' : Nat, x = .int .u32 (y' : Nat) ∧ y' < 4294967296 ∧ citer (2 * e * (k / 2).toNat) y' = citer (8 * n.toNat) a ∧ wz.heap[w.heap.size]? = some (.cells (ft e) 44 (0, 0)) ∧ Below w.heap.size w wz)
          case first =>
            go_wp2_with (first | (go_at_call 30; refine (times_ft e y _ hy).mono ?_; rintro e' w' ⟨rfl, rfl⟩))
            · have hodd : k % 2 = 1 := by have h : (k % 2 == 1) = true := by assumption
                                          simpa using h
              go_meet
              exact ⟨_, rfl, citer_lt e hy, by rw [odd_step e y k hk0 hodd]; exact HEY.out, by rw [Below.heap_alloc _ _ _ (by have := hbel2.size; have := (Array.getElem?_eq_some_iff.1 HF.out).1; omega)]; exact HF.out, hbel2.alloc hbel2.size _⟩
            · have hev : k % 2 ≠ 1 := by have h : (k % 2 == 1) = false := by assumption
                                         simpa using h
              go_meet
              exact ⟨_, rfl, hy, by rw [even_step e k hk0 hev]; exact HEY.out, HF.out, hbel2⟩
          case rest =>
            obtain ⟨y', rfl, hy', hcy, hfw, hbw⟩ := hcut
            have HCY := Lib.hid hcy
            have HFW := Lib.hid hfw
            have hgw : w.heap.size < wc.heap.size := (Array.getElem?_eq_some_iff.1 hfw).1
            clear hcy hfw hld HEY HF hbel2 hpart2
            obtain ⟨wo2, rfl⟩ : ∃ wo : World, wo = wr := ⟨_, rfl⟩
            go_wp2_with fail
            go_loopw [11, 36] (fun _ q wr => ∃ i : Nat, i ≤ 32 ∧ q = .int .i64 i ∧ wr.heap[w.heap.size]? = some (.cells (ft e) 44 (0, 0)) ∧ Part wr wc.heap.size 44 (2 * e) i ∧ Below w.heap.size w wr) (fun _ q _ => 32 - (intOf q).toNat)
            case atStart => exact ⟨0, by omega, rfl, by rw [Below.heap_alloc _ _ _ hgw]; exact HFW.out, Part.zero wc _ _ _ (by simp), hbw.alloc (by omega) _⟩
            case round =>
              obtain ⟨i, hi, rfl, hrow, hpt, hbl⟩ := hrel
              by_cases hlt : i < 32
              · have hltI : (i : Int) < 32 := by omega
                have hld := ld44 Try.prog wr.drew w.heap.size e hrow
                have hcell := row_cell hrow i hlt
                have hz := citer_lt e (pow_lt i hlt)
                obtain ⟨⟨v0, hc2⟩, hf2⟩ := ((hpt.alloc (.cells (ft e) 44)).drew).cell i hlt
                have HR := Lib.hid hrow
                clear hrow
                go_wp2_with fail
                go_region_with (go_at_call 30; refine (times_ft e _ _ hz).mono ?_; rintro e' w' ⟨rfl, rfl⟩)
                all_goals
                  go_wp2_with fail
                  go_roundw
                  case rel =>
                    refine ⟨i + 1, by omega, by go_num, ?_, ?_, ?_⟩
                    · rw [heap_drew, heap_setCell_other _ _ _ _ (by show w.heap.size ≠ wc.heap.size; omega), Below.heap_alloc _ _ _ (by have := hpt.lt; omega)]
                      exact HR.out
                    · exact ((hpt.alloc _).store hlt (citer_two e _)).drew
                    · exact ((hbl.alloc hbl.size _).setCell (by show w.heap.size ≤ wc.heap.size; omega) _).drew
                  case measure => simp [intOf]; omega
              · have hge2 : ¬ (i : Int) < 32 := by omega
                have h32 : i = 32 := by omega
                rw [h32] at hpt
                have hlq := ld44 Try.prog wr wc.heap.size (2 * e) hpt.full
                have hst := st44 Try.prog wr w.heap.size (2 * e) _ hrow (ft_size e)
                have hrow2 := setRow_heap wr w.heap.size _ (ft (2 * e)) _ _ hrow
                have hsz := ft_size (2 * e)
                have HR2 := Lib.hid hrow2
                clear hrow hrow2 hpt h32
                go_wp2_with fail
                go_roundw
                case rel => exact ⟨2 * e, y', k / 2, rfl, rfl, hy', HCY.out, by omega, Part.of_full HR2.out, below_setRow hbl (Nat.le_refl _) _⟩
                case measure => simp [intOf]; omega
        · have hkz : k.toNat = 0 := by omega
          have hfin : y = citer (8 * n.toNat) a := by rw [← hey, hkz]; simp [citer]
          have hxor := u32_xor_nat y b hy hb
          have HF := Lib.hid hfin
          clear hfin hey hpart hpart2 hkz
          go_wp2_with fail
          go_ret
          exact ⟨ret_int (by rw [← HF.out]), hbel2⟩

theorem joinSums_any (a b : Nat) (n : Int) (w : World) (ha : a < 4294967296) (hb : b < 4294967296) (hn : n ≤ 1000000000) :
    Calls Try.prog 23 #[.int .i64 a, .int .i64 b, .int .i64 n] w fun e w' => e = .returned (.int .i64 ((citer (8 * n.toNat) a ^^^ b : Nat) : Int)) ∧ w = w' := by
  go_enter Try.func23, Try.ntmps23
  go_wp2_with fail
  go_loop [0, 7, 8] (fun x i _ => ∃ k : Nat, (k : Int) ≤ max n 0 ∧ i = .int .i64 k ∧ x = .int .i64 (citer (8 * k) a)) (fun _ i _ => n.toNat - (intOf i).toNat)
  case atStart => exact ⟨0, by omega, rfl, by simp [citer]⟩
  case round =>
    obtain ⟨k, hk, rfl, rfl⟩ := hrel
    have hy := citer_lt (8 * k) ha
    by_cases hlt : (k : Int) < n
    · have hnext := citer_add (8 * k) 8 a
      have HN := Lib.hid hnext
      clear hnext
      generalize citer (8 * k) a = y at *
      have hkb : k < 1000000000 := by omega
      go_wp2_with fail
      go_loop [0, 8] (fun c i => ∃ j : Nat, j ≤ 8 ∧ i = .int .i64 j ∧ c = .int .i64 (citer j y)) (fun _ i => 8 - (intOf i).toNat)
      case atStart => exact ⟨0, by omega, rfl, by simp [citer]⟩
      case round =>
        obtain ⟨j, hj, rfl, rfl⟩ := hrel
        have hz := citer_lt j hy
        by_cases hlt8 : j < 8
        · have hs8 := Lib.hid (citer_succ j y)
          go_wp2_with (go_at_call 29; refine (shift_any _ _ hz).mono ?_; rintro e w' ⟨rfl, rfl⟩)
          go_round
          case rel => exact ⟨j + 1, by omega, by go_num, by rw [hs8.out]⟩
          case measure => simp [intOf]; omega
        · have h8 : j = 8 := by omega
          subst h8
          go_wp2
          go_round
          case rel => exact ⟨k + 1, by omega, by go_num, by rw [show 8 * (k + 1) = 8 * k + 8 by omega, HN.out]⟩
          case measure => simp [intOf]; omega
    · have hkn : k = n.toNat := by omega
      have hxor := i64_xor_nat (citer (8 * n.toNat) a) b (citer_lt _ ha) hb
      go_wp2
      go_ret
      exact ⟨rfl, rfl⟩

theorem join_csum (s t : List UInt8) (n : Int) (h : n = t.length) : citer (8 * n.toNat) (csum s) ^^^ csum t = csum (s ++ t) := by
  subst h; rw [csum_append]; rfl

theorem sumJoin_nil (a : Nat) (n : Int) (m : Nat) (w : World) (ha : a < 4294967296) (h : n = m) (hm : m ≤ 100000) :
    Calls Try.prog 22 #[.int .u32 a, .int .u32 0, .int .i64 n] w fun e w' => e = .returned (.int .u32 (citer (8 * m) a)) ∧ Below w.heap.size w w' := by
  have := sumJoin_any a 0 n w ha (by omega) (by omega)
  have hz : n.toNat = m := by omega
  rwa [hz, Nat.xor_zero] at this
theorem csum_known : (((csum [49, 50, 51, 52, 53, 54, 55, 56, 57] : Nat) : Int) == 3421780262) = true := by decide +kernel

theorem summed_any (w : World) : Calls Try.prog 17 #[] w fun e w' => e = .returned (.bool true) ∧ Below w.heap.size w w' := by
  have hk := csum_known
  have hj : citer (8 * Int.toNat 5) (csum [49, 50, 51, 52]) ^^^ csum [53, 54, 55, 56, 57] = csum [49, 50, 51, 52, 53, 54, 55, 56, 57] := join_csum [49, 50, 51, 52] [53, 54, 55, 56, 57] 5 rfl
  have HJ := Lib.hid hj
  clear hj
  go_enter Try.func17, Try.ntmps17
  go_wp2_with (first | (go_at_call 18; refine (sum_any _ _ (by decide)).mono ?_; rintro e w' ⟨rfl, rfl⟩) | (go_at_call 22; refine (sumJoin_any _ _ _ _ (csum_lt _) (csum_lt _) (by omega)).mono ?_; rintro e w1 ⟨rfl, hb⟩; rw [HJ.out]))
  go_ret
  exact ⟨rfl, hb⟩
end Go.Proofs.Ytmpikgkaoafclaa
